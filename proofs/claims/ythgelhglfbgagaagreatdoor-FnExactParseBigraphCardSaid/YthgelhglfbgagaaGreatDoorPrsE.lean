/- Reading the text of a bigraph: the reference's last four parts. -/
import Derived.Test.YthgelhglfbgagaaGreatDoorPrsN
import Derived.Test.YthgelhglfbgagaaGreatDoorTail
namespace Go.Proofs.YthgelhglfbgagaaGreatDoor
open Go Go.RowKit Go.BigFrame

/-- The words behind the first one, in a slice of the call's own. -/
def OutT (w : World) (B : Nat) (v : Value) (s : ByteArray) : Prop :=
  ∃ g c o c', v = .slice (some ⟨g, o, none⟩) ((splitP s 32).length - 1) c' ∧ (o = 1 ∨ (splitP s 32).length = 1) ∧ (splitP s 32).length ≤ c' + 1 ∧ Acc w B 9 1 (.slice (some ⟨g, 0, none⟩) (splitP s 32).length c) (strRows (splitP s 32))
def endK (rd : ByteArray → Option Int) (ps : List ByteArray) : Bool := allK rd (wordsR (part ps 0)) && ((rd (part ps 1)).isSome && allK (wireR rd) (wordsR (part ps 3)))
set_option maxRecDepth 100000 in
set_option maxHeartbeats 16000000 in
theorem l2ReadEnd_ct (r : Int) (vp : Value) (ps : List ByteArray) (w : World) (h : StrsAt w vp ps) (h4 : ps.length = 4) (hz : ∀ x ∈ ps, x.size ≤ 1100000) :
    Calls Tryz.prog 23 #[.agg #[.int .i64 r, .slice none 0 0, .slice none 0 0, .int .i64 0, .slice none 0 0, .slice none 0 0], vp] w fun e w' => ∃ ed sa sn sc oa on oc ia inn ic, e = .returned (.tuple #[.agg #[.int .i64 r, .slice none 0 0, .slice sa sn sc, .int .i64 ed, .slice oa on oc, .slice ia inn ic], .bool (endK rdN ps)]) ∧ Below w.heap.size w w' ∧
      (endK rdN ps = true → ed = rdV (part ps 1) ∧ sn = (allV rdN (wordsR (part ps 0))).length ∧ Acc w' w.heap.size 3 1 (.slice sa sn sc) (intRows (allV rdN (wordsR (part ps 0)))) ∧ OutT w' w.heap.size (.slice oa on oc) (part ps 2) ∧ inn = (allV (wireR rdN) (wordsR (part ps 3))).length ∧ Acc w' w.heap.size 87 2 (.slice ia inn ic) ((allV (wireR rdN) (wordsR (part ps 3))).map Wr.cells)) := by
  obtain ⟨W0, hW0⟩ : ∃ W, W = (w.alloc (.cells #[.int .i64 r, .slice none 0 0, .slice none 0 0, .int .i64 0, .slice none 0 0, .slice none 0 0] 29)).alloc (.cells #[.int .i64 0, .slice none 0 0, .slice none 0 0, .int .i64 0, .slice none 0 0, .slice none 0 0] 29) := ⟨_, rfl⟩
  have hA : Below w.heap.size w W0 := by rw [hW0]; exact bthen (balloc _ _) (balloc _ _)
  have BA : Box W0 w.heap.size #[.int .i64 r, .slice none 0 0, .slice none 0 0, .int .i64 0, .slice none 0 0, .slice none 0 0] 29 := by rw [hW0]; exact (Box.new _ _ _).alloc _
  have BR : Box W0 (w.heap.size + 1) #[.int .i64 0, .slice none 0 0, .slice none 0 0, .int .i64 0, .slice none 0 0, .slice none 0 0] 29 := by rw [hW0]; exact Box.new' _ _ _ (by simp)
  have hs0 : w.heap.size + 2 ≤ W0.heap.size := by rw [hW0]; simp
  obtain ⟨n0, hn0⟩ : ∃ n, n = w.heap.size + 2 := ⟨_, rfl⟩
  rw [← hn0] at hs0
  have hn1 : w.heap.size + 2 ≤ n0 := by omega
  clear hn0
  obtain ⟨_, _, rfl, hpc, _, H⟩ := h.open
  have H' := Lib.hid H
  have HZ := Lib.hid hz
  have hg : ∀ i, i < 4 → ps[i]? = some (part ps i) := fun i hi => by unfold part; rw [List.getD_eq_getElem?_getD, List.getElem?_eq_getElem (by omega)]; rfl
  obtain ⟨_, pb, po, rfl, hp0⟩ := H 0 _ (hg 0 (by decide))
  obtain ⟨_, pb', po', e1, hp1⟩ := H 1 _ (hg 1 (by decide))
  obtain ⟨rfl, rfl⟩ : pb = pb' ∧ po = po' := by simpa using e1
  obtain ⟨_, pb', po', e2, hp2⟩ := H 2 _ (hg 2 (by decide))
  obtain ⟨rfl, rfl⟩ : pb = pb' ∧ po = po' := by simpa using e2
  obtain ⟨_, pb', po', e3, hp3⟩ := H 3 _ (hg 3 (by decide))
  obtain ⟨rfl, rfl⟩ : pb = pb' ∧ po = po' := by simpa using e3
  have z0 := hz _ (List.mem_of_getElem? (hg 0 (by decide)))
  have z1 := hz _ (List.mem_of_getElem? (hg 1 (by decide)))
  have z2 := hz _ (List.mem_of_getElem? (hg 2 (by decide)))
  have z3 := hz _ (List.mem_of_getElem? (hg 3 (by decide)))
  have HEK : Hid (endK rdN ps = (allK rdN (wordsR (part ps 0)) && ((rdN (part ps 1)).isSome && allK (wireR rdN) (wordsR (part ps 3))))) := rfl
  obtain ⟨p0, h0⟩ : ∃ x, x = part ps 0 := ⟨_, rfl⟩
  obtain ⟨p1, h1⟩ : ∃ x, x = part ps 1 := ⟨_, rfl⟩
  obtain ⟨p2, h2⟩ : ∃ x, x = part ps 2 := ⟨_, rfl⟩
  obtain ⟨p3, h3⟩ : ∃ x, x = part ps 3 := ⟨_, rfl⟩
  rw [← h0] at hp0 z0 HEK ⊢
  rw [← h1] at hp1 z1 HEK ⊢
  rw [← h2] at hp2 z2 ⊢
  rw [← h3] at hp3 z3 HEK ⊢
  obtain ⟨EK, hEK⟩ : ∃ b, b = endK rdN ps := ⟨_, rfl⟩
  rw [← hEK] at HEK ⊢
  clear hEK h0 h1 h2 h3 h H H' hg e1 e2 e3 hz HZ
  rw [h4] at hpc ⊢
  clear h4
  have hb := hA
  have hq := World.block_lt_of_cell? w _ hp0
  rw [Nat.add_zero] at hp0
  go_enter Tryz.func23, Tryz.ntmps23
  go_wp2_with fail
  rw [← hW0]
  clear hW0
  refine (l1Split_ct p0 32 _ z0).mono ?_
  rintro e w1 ⟨g0, d0, rfl, acc0, b1⟩
  have BA := BA.below b1
  have BR := BR.below b1
  have hb := bthen hA b1
  have hs := Nat.le_trans hs0 b1.size
  have hst := acc0.strs (by have := splitP_length p0 32; omega) (fun x hx => by have := splitP_size p0 32 x hx; omega)
  clear hA b1 hs0 acc0
  go_wp2_with fail
  refine (l2Numbers_ct _ (splitP p0 32) _ hst (by have := splitP_length p0 32; omega)).mono ?_
  rintro e w2 ⟨la, lc, rfl, accl, b2⟩
  have BA := BA.below b2
  have BR := BR.below b2
  have accl := accl.le (b' := n0) hs
  have hb := bthen hb b2
  have hs := Nat.le_trans hs b2.size
  obtain ⟨L, hL⟩ : ∃ L, L = (allV rdN ((splitP p0 32).drop 1)).length := ⟨_, rfl⟩
  rw [← hL] at accl ⊢
  have HLN : Hid (L = (allV rdN (wordsR p0)).length) := hL
  obtain ⟨k1, hk1⟩ : ∃ b, b = allK rdN ((splitP p0 32).drop 1) := ⟨_, rfl⟩
  rw [← hk1]
  have HK1 : Hid (k1 = allK rdN (wordsR p0)) := hk1
  have hp1' := (hb.cell hq).trans hp1
  clear b2 hst hL hk1
  go_wp2_with fail
  refine (l1Read_ct p1 _ (by omega)).mono ?_
  rintro e w3 ⟨rfl, b3⟩
  have BA := BA.below b3
  have BR := BR.below b3
  have accl := accl.below b3
  have hb := bthen hb b3
  have hs := Nat.le_trans hs b3.size
  obtain ⟨p, hp⟩ : ∃ p, p = rdV p1 := ⟨_, rfl⟩
  rw [← hp]
  have HP := Lib.hid hp
  obtain ⟨k2, hk2⟩ : ∃ b, b = rdB p1 := ⟨_, rfl⟩
  rw [← hk2]
  have HK2 : Hid (k2 = (rdN p1).isSome) := hk2
  clear b3 hp hk2 hp1'
  have q := BA.cell
  have f := BA.free
  have hp2' := (hb.cell hq).trans hp2
  have gA : w.heap.size ≠ pb := by omega
  go_wp2_with fail
  obtain ⟨w4, hw4⟩ : ∃ W, W = (w3.setCell ⟨w.heap.size, 2, none⟩ (.slice la L lc)).setCell ⟨w.heap.size, 3, none⟩ (.int .i64 p) := ⟨_, rfl⟩
  first | rw [← hw4] | fail "w4"
  have BA4 : Box w4 w.heap.size #[.int .i64 r, .slice none 0 0, .slice la L lc, .int .i64 p, .slice none 0 0, .slice none 0 0] 29 := by rw [hw4]; exact (BA.set 2 _).set 3 _
  have BR4 : Box w4 (w.heap.size + 1) #[.int .i64 0, .slice none 0 0, .slice none 0 0, .int .i64 0, .slice none 0 0, .slice none 0 0] 29 := by rw [hw4]; exact (BR.other _ (by simp)).other _ (by simp)
  have accl4 : Acc w4 n0 3 1 (.slice la L lc) (intRows (allV rdN ((splitP p0 32).drop 1))) := by rw [hw4]; exact accl.keep (fun j hj _ => by repeat rw [heap_setCell_other _ _ _ _ (by dsimp only; omega)])
  have hb4 : Below w.heap.size w w4 := by rw [hw4]; exact (hb.setCell (by simp) _).setCell (by simp) _
  have hs4 : n0 ≤ w4.heap.size := by rw [hw4, size_setCell, size_setCell]; exact hs
  clear hw4 BA BR accl hb hs q f hp2' gA
  refine (l1Split_ct p2 32 _ z2).mono ?_
  rintro e w5 ⟨g2, d2, rfl, acc2, b5⟩
  have BA := BA4.below b5
  have BR := BR4.below b5
  have accl := accl4.below b5
  have acc2 := acc2.le (b' := n0) hs4
  have hb := bthen hb4 b5
  have hs := Nat.le_trans hs4 b5.size
  obtain ⟨N2, hN2⟩ : ∃ n, n = (splitP p2 32).length := ⟨_, rfl⟩
  have hn2 := splitP_pos p2 32
  have hl2 := splitP_length p2 32
  have HN2 := Lib.hid hN2
  rw [← hN2] at acc2 hn2 hl2 ⊢
  have hcd : N2 ≤ d2 := by
    obtain ⟨a, c, e, hc, _⟩ := acc2.own.row (M := N2) (by rw [len_strRows, ← hN2]; exact Nat.le_refl _)
    rw [len_strRows, ← hN2] at e hc
    simp only [Value.slice.injEq] at e
    omega
  clear BA4 BR4 accl4 b5 hb4 hs4 hN2
  have q := BA.cell
  have f := BA.free
  have hp3' := (hb.cell hq).trans hp3
  have gA : w.heap.size ≠ pb := by omega
  go_wp2_with (refine slice_tail _ rfl _ 26 9 rfl Tryz.underlying26 Tryz.sizeOf9 _ _ _ (by rfl) hn2 hcd ?_)
  intro o2 HO2
  go_wp2_with fail
  obtain ⟨w6, hw6⟩ : ∃ W, W = w5.setCell ⟨w.heap.size, 4, none⟩ (.slice (some ⟨g2, o2, none⟩) (N2 - 1) (d2 - 1)) := ⟨_, rfl⟩
  first | rw [← hw6] | fail "w6"
  have BA6 : Box w6 w.heap.size #[.int .i64 r, .slice none 0 0, .slice la L lc, .int .i64 p, .slice (some ⟨g2, o2, none⟩) (N2 - 1) (d2 - 1), .slice none 0 0] 29 := by rw [hw6]; exact BA.set 4 _
  have BR6 : Box w6 (w.heap.size + 1) #[.int .i64 0, .slice none 0 0, .slice none 0 0, .int .i64 0, .slice none 0 0, .slice none 0 0] 29 := by rw [hw6]; exact BR.other _ (by simp)
  have accl6 : Acc w6 n0 3 1 (.slice la L lc) (intRows (allV rdN ((splitP p0 32).drop 1))) := by rw [hw6]; exact accl.keep (fun j hj _ => heap_setCell_other _ _ _ _ (by dsimp only; omega))
  have acc26 : Acc w6 n0 9 1 (.slice (some ⟨g2, 0, none⟩) N2 d2) (strRows (splitP p2 32)) := by rw [hw6]; exact acc2.keep (fun j hj _ => heap_setCell_other _ _ _ _ (by dsimp only; omega))
  have hb6 : Below w.heap.size w w6 := by rw [hw6]; exact hb.setCell (by simp) _
  have hs6 : n0 ≤ w6.heap.size := by rw [hw6, size_setCell]; exact hs
  clear hw6 BA BR accl acc2 hb hs q f hp3' gA
  refine (l1Split_ct p3 32 _ z3).mono ?_
  rintro e w7 ⟨g3, d3, rfl, acc3, b7⟩
  have BA := BA6.below b7
  have BR := BR6.below b7
  have accl := accl6.below b7
  have acc2 := acc26.below b7
  have acc3 := acc3.le (b' := n0) hs6
  have hb := bthen hb6 b7
  have hs := Nat.le_trans hs6 b7.size
  obtain ⟨N3, hN3⟩ : ∃ n, n = (splitP p3 32).length := ⟨_, rfl⟩
  have hn3 := splitP_pos p3 32
  have hl3 := splitP_length p3 32
  have HZ3 : Hid (∀ x ∈ splitP p3 32, x.size ≤ p3.size) := splitP_size p3 32
  have HN3 := Lib.hid hN3
  rw [← hN3] at acc3 hn3 hl3 ⊢
  have hcd3 : N3 ≤ d3 := by
    obtain ⟨a, c, e, hc, _⟩ := acc3.own.row (M := N3) (by rw [len_strRows, ← hN3]; exact Nat.le_refl _)
    rw [len_strRows, ← hN3] at e hc
    simp only [Value.slice.injEq] at e
    omega
  clear BA6 BR6 accl6 acc26 b7 hb6 hs6 hN3
  go_wp2_with (refine slice_tail _ rfl _ 26 9 rfl Tryz.underlying26 Tryz.sizeOf9 _ _ _ (by rfl) hn3 hcd3 ?_)
  intro o3 HO3
  go_wp2_with fail
  go_loopw [11] (fun i W => ∃ k r' ia ic, k ≤ N3 - 1 ∧ i = .int .i64 ((k : Nat) : Int) ∧ Below w.heap.size w W ∧ n0 ≤ W.heap.size ∧ Box W w.heap.size #[.int .i64 r, .slice none 0 0, .slice la L lc, .int .i64 p, .slice (some ⟨g2, o2, none⟩) (N2 - 1) (d2 - 1), .slice ia r'.length ic] 29 ∧ Box W (w.heap.size + 1) #[.int .i64 0, .slice none 0 0, .slice none 0 0, .int .i64 0, .slice none 0 0, .slice none 0 0] 29 ∧ Acc W n0 87 2 (.slice ia r'.length ic) (r'.map Wr.cells) ∧ Acc W n0 3 1 (.slice la L lc) (intRows (allV rdN ((splitP p0 32).drop 1))) ∧ Acc W n0 9 1 (.slice (some ⟨g2, 0, none⟩) N2 d2) (strRows (splitP p2 32)) ∧ Acc W n0 9 1 (.slice (some ⟨g3, 0, none⟩) N3 d3) (strRows (splitP p3 32)) ∧ Hid (allR (wireR rdN) ((wordsR p3).take k) = some r' ∧ r'.length ≤ k)) (fun i _ => N3 - (intOf i).toNat)
  case atStart => exact ⟨0, [], none, 0, Nat.zero_le _, rfl, hb, hs, BA, BR, Acc.nil _ _ _ _, accl, acc2, acc3, by rw [List.take_zero]; exact ⟨rfl, Nat.le_refl _⟩⟩
  case round =>
    clear hb hs BA BR accl acc2 acc3
    obtain ⟨k, r', ia, ic, hk, rfl, hb, hs, BA, BR, acc, accl, acc2, acc3, HR⟩ := hrel
    have HL : Hid ((r'.map Wr.cells).length = r'.length) := by show _ = _; simp
    have hrk := HR.out.2
    by_cases hkl : k < N3 - 1
    · obtain ⟨x, hx⟩ := getElem?_of_lt (l := splitP p3 32) (i := k + 1) (by rw [← HN3.out]; omega)
      have HX : Hid ((wordsR p3)[k]? = some x) := by show _ = _; unfold wordsR; rw [List.getElem?_drop, Nat.add_comm]; exact hx
      have hxz := HZ3.out x (List.mem_of_getElem? hx)
      have hc := acc3.strAt hx
      have ho3 : k + 1 = o3 + k := by have := HO3.out; omega
      rw [ho3] at hc
      have ham := cutA_size x 61
      have hzm := cutZ_size x 61
      clear hx ho3
      go_wp2_with fail
      refine (l2Cut_ct x 61 _ (by omega)).mono ?_
      rintro e w8 ⟨rfl, b8⟩
      go_wp2_with fail
      refine (l1Read_ct (cutZ x 61) _ (by omega)).mono ?_
      rintro e w9 ⟨rfl, b9⟩
      have b8 := bthen b8 b9
      have BA := BA.below b8
      have BR := BR.below b8
      have acc := acc.below b8
      have accl := accl.below b8
      have acc2 := acc2.below b8
      have acc3 := acc3.below b8
      have hb := bthen hb b8
      have hs := Nat.le_trans hs b8.size
      clear b8 b9 hc
      cases hrd : rdN (cutZ x 61) with
      | none =>
        have HN := Lib.hid (allV_none (allR_none (List.mem_of_getElem? HX.out) (wireR_no hrd)))
        have HB := Lib.hid (rd_none hrd)
        rw [HB.out.1, HB.out.2]
        have HF : Hid (EK = false) := by show _ = _; rw [HEK.out, HN.out.2, Bool.and_false, Bool.and_false]
        have q := BA.cell
        have q2 := BR.cell
        have f2 := BR.free
        clear hrd
        go_wp2_with fail
        refine bodyPost_ret (v := .tuple #[.agg #[.int .i64 r, .slice none 0 0, .slice la L lc, .int .i64 p, .slice (some ⟨g2, o2, none⟩) (N2 - 1) (d2 - 1), .slice ia r'.length ic], .bool false]) (by simp [results, Tryz.results23, go_sem, q2]) rfl ⟨p, la, L, lc, _, _, _, ia, _, ic, by rw [HF.out], ?_, ?_⟩
        · iterate 6 refine Below.setCell ?_ (by simp) _
          exact hb
        · intro h; rw [HF.out] at h; cases h
      | some n =>
        have HB := Lib.hid (rd_some hrd)
        have HT := Lib.hid (allR_take HR.out.1 HX.out (wireR_rd hrd))
        rw [HB.out.1, HB.out.2]
        clear hrd
        have q := (BA.alloc (.cells #[.string (cutA x 61), .int .i64 n] 87)).cell
        have q0 := BA.cell
        go_wp2_with (at_builtin; refine app1 _ rfl (.tmp 69) (.tmp 73) 27 rfl n0 87 2 24 (.agg #[.string ⟨#[]⟩, .int .i64 0]) Tryz.underlying27 inf_wr rfl (by decide) (by decide) _ (r'.map Wr.cells) (by rfl) acc [.string (cutA x 61), .int .i64 n] _ rfl (by simp [Value.oneCell']) (by rfl) (by rw [HL.out]; omega) hs ?_)
        intro g c2 w10 acc9 hg
        try rw [HL.out] at acc9
        try rw [HL.out]
        have hb2 := grown_below hb acc hg (by omega) (by omega)
        have hs2 := Nat.le_trans hs hg.size
        have BA2 := BA.keep (grown_block acc hg (by omega) BA.lt)
        have BR2 := BR.keep (grown_block acc hg (by omega) BR.lt)
        have accl2 := accl.beside acc (by decide) hg
        have acc22 := acc2.beside acc (by decide) hg
        have acc32 := acc3.beside acc (by decide) hg
        clear acc hg hb hs BA BR accl acc2 acc3 q q0
        have q := BA2.cell
        have f := BA2.free
        go_wp2_with fail
        go_roundw
        case rel =>
          have hkp : ∀ (u : Value) (j : Nat), n0 ≤ j → (w10.setCell ⟨w.heap.size, 5, none⟩ u).heap[j]? = w10.heap[j]? := fun u j hj => heap_setCell_other _ _ _ _ (by dsimp only; omega)
          have HLN2 : (r' ++ [(⟨cutA x 61, n⟩ : Wr)]).length = r'.length + 1 := by simp
          refine ⟨k + 1, r' ++ [⟨cutA x 61, n⟩], some ⟨g, 0, none⟩, c2, by omega, by go_num, hb2.setCell (by simp) _, by rw [size_setCell]; exact hs2, ?_, BR2.other _ (by simp), ?_, accl2.keep (fun j hj _ => hkp _ j hj), acc22.keep (fun j hj _ => hkp _ j hj), acc32.keep (fun j hj _ => hkp _ j hj), HT.out, by simp; omega⟩
          · rw [HLN2]; exact BA2.set 5 _
          · rw [HLN2]
            refine Acc.keep ?_ (fun j hj _ => hkp _ j hj)
            rw [List.map_append]
            exact acc9
        case measure => simp [intOf]; omega
    · have HE : Hid (allV (wireR rdN) (wordsR p3) = r' ∧ allK (wireR rdN) (wordsR p3) = true) := by
        have := HR.out.1
        rw [List.take_of_length_le (by unfold wordsR; rw [List.length_drop, ← HN3.out]; omega)] at this
        exact allV_some this
      have HEK2 : Hid (EK = (k1 && k2)) := by show _ = _; rw [HEK.out, HE.out.2, HK1.out, HK2.out, Bool.and_true]
      have q := BA.cell
      have q2 := BR.cell
      have f2 := BR.free
      cases k1 <;> cases k2
      all_goals
        go_wp2_with fail
        refine bodyPost_ret (v := .tuple #[.agg #[.int .i64 r, .slice none 0 0, .slice la L lc, .int .i64 p, .slice (some ⟨g2, o2, none⟩) (N2 - 1) (d2 - 1), .slice ia r'.length ic], .bool _]) (by simp [results, Tryz.results23, go_sem, q2]; rfl) rfl ⟨p, la, L, lc, _, _, _, ia, _, ic, by rw [HEK2.out]; first | done | rfl, ?_, ?_⟩
        · iterate 6 refine Below.setCell ?_ (by simp) _
          exact hb
        · intro h
          first | (rw [HEK2.out] at h; cases h; done) | skip
          all_goals
            have hkp : ∀ (W : World) (u0 u1 u2 u3 u4 u5 : Value) (g : Nat), n0 ≤ g → ((((((W.setCell ⟨w.heap.size + 1, 0, none⟩ u0).setCell ⟨w.heap.size + 1, 1, none⟩ u1).setCell ⟨w.heap.size + 1, 2, none⟩ u2).setCell ⟨w.heap.size + 1, 3, none⟩ u3).setCell ⟨w.heap.size + 1, 4, none⟩ u4).setCell ⟨w.heap.size + 1, 5, none⟩ u5).heap[g]? = W.heap[g]? := fun W _ _ _ _ _ _ g hg => by
              repeat rw [heap_setCell_other _ _ _ _ (by dsimp only; omega)]
            refine ⟨HP.out, HLN.out, (accl.keep (fun j hj _ => hkp _ _ _ _ _ _ _ j hj)).le (by omega), ⟨g2, d2, o2, d2 - 1, by rw [HN2.out], by rw [← HN2.out]; exact HO2.out, by rw [← HN2.out]; omega, ?_⟩, by rw [HE.out.1], ?_⟩
            · rw [← HN2.out]; exact (acc2.keep (fun j hj _ => hkp _ _ _ _ _ _ _ j hj)).le (by omega)
            · rw [HE.out.1]; exact (acc.keep (fun j hj _ => hkp _ _ _ _ _ _ _ j hj)).le (by omega)
end Go.Proofs.YthgelhglfbgagaaGreatDoor
