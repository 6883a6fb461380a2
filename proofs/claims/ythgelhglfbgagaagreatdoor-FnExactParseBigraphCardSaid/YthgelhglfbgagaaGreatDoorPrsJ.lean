/- Reading the text of a bigraph: the program's. -/
import Derived.Test.YthgelhglfbgagaaGreatDoorPrsO
import Derived.Test.YthgelhglfbgagaaGreatDoorTextI
import Derived.Test.YthgelhglfbgagaaGreatDoorG4
import Derived.Test.YthgelhglfbgagaaGreatDoorOwnB
import Derived.Test.YthgelhglfbgagaaGreatDoorG2
import Derived.Test.YthgelhglfbgagaaGreatDoorG1
import Derived.KernelRfl
namespace Go.Proofs.YthgelhglfbgagaaGreatDoor
open Go Go.RowKit Go.BigFrame
theorem eq4 (k0 k1 k2 k3 : Bool) (w' : World) : (Op.equalIn 10000 65 (.agg #[.bool k0, .bool k1, .bool k2, .bool k3]) (.agg #[.bool true, .bool true, .bool true, .bool true])).run Tryz.prog w' = .ok (k0 && (k1 && (k2 && k3))) w' := by
  cases k0 <;> cases k1 <;> cases k2 <;> cases k3 <;> kernel_rfl
theorem parA_none {sig : List Ctl} {s : ByteArray} (h : parsR rdA (s.size + 100) sig (splitB2 s tSc) s = none) : parV sig s = noBig ∧ parB sig s = false := par_none h
set_option maxRecDepth 100000 in
set_option maxHeartbeats 32000000 in
theorem implParseBigraph_ct (vs : Value) (sig : List Ctl) (s : ByteArray) (w : World) (h : CtlsAt w vs sig) (hsz : s.size ≤ 1048576) (E : Env w) :
    Calls Tryz.prog 8 #[vs, .string s] w (GivesBig (parV sig s) (parB sig s) w) := by
  obtain ⟨W0, hW0⟩ : ∃ W, W = w.alloc (.cells #[.int .i64 0, .slice none 0 0, .slice none 0 0, .int .i64 0, .slice none 0 0, .slice none 0 0] 29) := ⟨_, rfl⟩
  have hb : Below w.heap.size w W0 := by rw [hW0]; exact balloc _ _
  have BR : Box W0 w.heap.size #[.int .i64 0, .slice none 0 0, .slice none 0 0, .int .i64 0, .slice none 0 0, .slice none 0 0] 29 := by rw [hW0]; exact Box.new _ _ _
  have hs : w.heap.size + 1 ≤ W0.heap.size := by rw [hW0]; simp
  have HCT := Lib.hid h
  obtain ⟨_, _, rfl, _, hsl, _⟩ := h.open
  have HE := Lib.hid E
  clear h E
  go_enter Tryz.func8, Tryz.ntmps8
  go_wp2_with fail
  rw [← hW0]
  clear hW0
  refine (splitE_ct s _ (by omega) (HE.out.below hb)).mono ?_
  rintro e w1 ⟨rfl, hst, b1⟩
  obtain ⟨gp, hgp⟩ : ∃ g, g = W0.heap.size := ⟨_, rfl⟩
  obtain ⟨N, hN⟩ : ∃ n, n = (splitB2 s tSc).length := ⟨_, rfl⟩
  have hN1 : 1 ≤ N := by rw [hN, splitB2_len]; omega
  have hNl : N ≤ s.size + 1 := by rw [hN]; exact splitB2_le s
  have HPZ : Hid (∀ x ∈ splitB2 s tSc, x.size ≤ s.size) := fun x hx => splitB2_size hx
  rw [← hgp, ← hN] at hst ⊢
  have BR := BR.below b1
  have hb := bthen hb b1
  have hs := Nat.le_trans hs b1.size
  have HN := Lib.hid hN
  have HST := Lib.hid hst
  clear b1 hgp hN hst
  go_wp2_with fail
  cases hsg : sigB sig with
  | false =>
    have HF := Lib.hid (parA_none (sig := sig) (s := s) (parsR_out (by rw [hsg]; simp)))
    refine (implIsSignature_ct _ sig false _ (HCT.out.below hb) hsg).mono ?_
    rintro e w2 ⟨rfl, b2⟩
    have BR := BR.below b2
    have hb := bthen hb b2
    have q2 := BR.cell
    have f2 := BR.free
    clear hsg b2
    go_wp2_with fail
    rw [HF.out.1, HF.out.2]
    refine bodyPost_ret (v := .tuple #[.agg #[.int .i64 0, .slice none 0 0, .slice none 0 0, .int .i64 0, .slice none 0 0, .slice none 0 0], .bool false]) (by simp [results, Tryz.results8, go_sem, q2]) rfl ⟨_, _, rfl, noBig_own _ _, by simp, ?_⟩
    repeat (refine Below.setCell ?_ (by dsimp only; omega) _)
    exact hb
  | true =>
  refine (implIsSignature_ct _ sig true _ (HCT.out.below hb) hsg).mono ?_
  rintro e wq ⟨rfl, b2⟩
  have BR := BR.below b2
  have HST := Lib.hid (StrsM.below HST.out b2)
  have hb := bthen hb b2
  have hs := Nat.le_trans hs b2.size
  have HSG := Lib.hid hsg
  clear hsg b2
  by_cases hr : 5 ≤ N
  case neg =>
    have HF := Lib.hid (parA_none (sig := sig) (s := s) (parsR_out (by rw [← HN.out]; rintro ⟨_, h, _⟩; exact hr h)))
    have q2 := BR.cell
    have f2 := BR.free
    have hneg : (N : Int) - 5 < 0 := by omega
    go_wp2_with fail
    rw [HF.out.1, HF.out.2]
    refine bodyPost_ret (v := .tuple #[.agg #[.int .i64 0, .slice none 0 0, .slice none 0 0, .int .i64 0, .slice none 0 0, .slice none 0 0], .bool false]) (by simp [results, Tryz.results8, go_sem, q2]) rfl ⟨_, _, rfl, noBig_own _ _, by simp, ?_⟩
    repeat (refine Below.setCell ?_ (by dsimp only; omega) _)
    exact hb
  obtain ⟨m, rfl⟩ : ∃ m, N = m + 5 := ⟨N - 5, by omega⟩
  have ei : ((m + 5 : Nat) : Int) - 5 = (m : Int) := by omega
  rw [ei]
  clear ei hr
  obtain ⟨ps, hps⟩ : ∃ p, p = splitB2 s tSc := ⟨_, rfl⟩
  have HP := Lib.hid hps
  rw [← hps] at HST HPZ HN
  clear hps
  have hg : ∀ i, i < m + 5 → ps[i]? = some (part ps i) := fun i hi => by unfold part; rw [List.getD_eq_getElem?_getD, List.getElem?_eq_getElem (by rw [← HN.out]; exact hi)]; rfl
  have hpz : ∀ i, i < m + 5 → (part ps i).size ≤ s.size := fun i hi => HPZ.out _ (List.mem_of_getElem? (hg i hi))
  have HC : Hid (∀ i, i < m + 5 → wq.cell? ⟨gp, i, none⟩ = some (.string (part ps i))) := fun i hi => by
    have := StrsAt.cellAt HST.out (hg i hi)
    rwa [Nat.zero_add] at this
  have HPI := Lib.hid hpz
  have HGT := Lib.hid hg
  have hgq : gp < wq.heap.size := World.block_lt_of_cell? _ _ (HC.out 0 (by omega))
  obtain ⟨gx, hgx⟩ : ∃ g, g = wq.heap.size := ⟨_, rfl⟩
  rw [← hgx] at hs hgq
  have BX0 : Box ((wq.alloc (.cells #[.int .i64 0, .slice none 0 0, .slice none 0 0, .int .i64 0, .slice none 0 0, .slice none 0 0] 29)).alloc (.cells #[.bool false, .bool false, .bool false, .bool false] 65)) gx #[.int .i64 0, .slice none 0 0, .slice none 0 0, .int .i64 0, .slice none 0 0, .slice none 0 0] 29 := by rw [hgx]; exact (Box.new _ _ _).alloc _
  have BK0 : Box ((wq.alloc (.cells #[.int .i64 0, .slice none 0 0, .slice none 0 0, .int .i64 0, .slice none 0 0, .slice none 0 0] 29)).alloc (.cells #[.bool false, .bool false, .bool false, .bool false] 65)) (gx + 1) #[.bool false, .bool false, .bool false, .bool false] 65 := Box.new' _ _ _ (by simp [hgx])
  have BR0 : Box ((wq.alloc (.cells #[.int .i64 0, .slice none 0 0, .slice none 0 0, .int .i64 0, .slice none 0 0, .slice none 0 0] 29)).alloc (.cells #[.bool false, .bool false, .bool false, .bool false] 65)) w.heap.size #[.int .i64 0, .slice none 0 0, .slice none 0 0, .int .i64 0, .slice none 0 0, .slice none 0 0] 29 := (BR.alloc _).alloc _
  have b60 : Below gx wq ((wq.alloc (.cells #[.int .i64 0, .slice none 0 0, .slice none 0 0, .int .i64 0, .slice none 0 0, .slice none 0 0] 29)).alloc (.cells #[.bool false, .bool false, .bool false, .bool false] 65)) := by rw [hgx]; exact bthen (balloc _ _) (balloc _ _)
  have h60 : gx + 2 ≤ ((wq.alloc (.cells #[.int .i64 0, .slice none 0 0, .slice none 0 0, .int .i64 0, .slice none 0 0, .slice none 0 0] 29)).alloc (.cells #[.bool false, .bool false, .bool false, .bool false] 65)).heap.size := by simp [hgx]
  have HGX := Lib.hid hgx
  have hc0 := HC.out 0 (by omega)
  obtain ⟨p0, hp0⟩ : ∃ p, p = part ps 0 := ⟨_, rfl⟩
  have HP0 := Lib.hid hp0
  have hz0 := hpz 0 (by omega)
  rw [← hp0] at hc0 hz0
  have hc0 := (b60.cell (p := ⟨gp, 0, none⟩) hgq).trans hc0
  clear hg hpz hp0 hgx
  go_wp2_with fail
  obtain ⟨W2, hW2⟩ : ∃ V, V = (wq.alloc (.cells #[.int .i64 0, .slice none 0 0, .slice none 0 0, .int .i64 0, .slice none 0 0, .slice none 0 0] 29)).alloc (.cells #[.bool false, .bool false, .bool false, .bool false] 65) := ⟨_, rfl⟩
  first | rw [← hW2] | fail "W2"
  rw [← HGX.out]
  rw [← hW2] at BX0 BK0 BR0 b60 h60
  have BX := BX0
  have BK := BK0
  have b6 := b60
  have h6 := h60
  have BR := BR0
  have hb := bthen hb (show Below wq.heap.size wq W2 by rw [hW2]; exact bthen (balloc _ _) (balloc _ _))
  clear BX0 BK0 BR0 b60 h60 hW2 hc0
  refine (rdE_ct p0 _ (by omega) (HE.out.below hb)).mono ?_
  rintro e w3 ⟨rfl, b3⟩
  have BR := BR.below b3
  have BX := BX.below b3
  have BK := BK.below b3
  have hb := bthen hb b3
  have b6 := b6.trans (b3.mono (by omega))
  have h6 := Nat.le_trans h6 b3.size
  obtain ⟨r0, hr0⟩ : ∃ r, r = (rdA p0).getD 0 := ⟨_, rfl⟩
  obtain ⟨k0, hk0⟩ : ∃ b, b = (rdA p0).isSome := ⟨_, rfl⟩
  rw [← hr0, ← hk0]
  have HR0 : Hid (r0 = (rdA (part ps 0)).getD 0) := by show _ = _; rw [hr0, HP0.out]
  have HK0 : Hid (k0 = (rdA (part ps 0)).isSome) := by show _ = _; rw [hk0, HP0.out]
  have n1 : w.heap.size ≠ gx := by omega
  have n2 : gx ≠ w.heap.size := by omega
  have n3 : w.heap.size ≠ gx + 1 := by omega
  have n4 : gx + 1 ≠ w.heap.size := by omega
  have n5 : gp ≠ gx := by omega
  have n6 : gp ≠ gx + 1 := by omega
  have n7 : gx ≠ gp := by omega
  have n8 : gx + 1 ≠ gp := by omega
  clear b3 hr0 hk0
  have q := BX.cell
  have f := BX.free
  have qk := BK.cell
  have fk := BK.free
  have q2 := BR.cell
  have f2 := BR.free
  go_wp2_with (refine slice_mid _ rfl _ _ 26 9 rfl Tryz.underlying26 Tryz.sizeOf9 gp (m + 5) (m + 5) m _ (by rfl) (by rfl) (by omega) (by omega) (by omega) ?_)
  obtain ⟨W4, hW4⟩ : ∃ V, V = (w3.setCell ⟨gx, 0, none⟩ (.int .i64 r0)).setCell ⟨gx + 1, 0, none⟩ (.bool k0) := ⟨_, rfl⟩
  first | rw [← hW4] | fail "W4"
  have BXW4 : Box W4 gx #[.int .i64 r0, .slice none 0 0, .slice none 0 0, .int .i64 0, .slice none 0 0, .slice none 0 0] 29 := by rw [hW4]; exact (BX.set 0 _).other _ (by dsimp only; omega)
  have BKW4 : Box W4 (gx + 1) #[.bool k0, .bool false, .bool false, .bool false] 65 := by rw [hW4]; exact (BK.other _ (by dsimp only; omega)).set 0 _
  have BRW4 : Box W4 w.heap.size #[.int .i64 0, .slice none 0 0, .slice none 0 0, .int .i64 0, .slice none 0 0, .slice none 0 0] 29 := by rw [hW4]; exact (BR.other _ (by dsimp only; omega)).other _ (by dsimp only; omega)
  have hbW4 : Below w.heap.size w W4 := by rw [hW4]; exact (hb.setCell (by dsimp only; omega) _).setCell (by dsimp only; omega) _
  have b6W4 : Below gx wq W4 := by rw [hW4]; exact (b6.setCell (by dsimp only; omega) _).setCell (by dsimp only; omega) _
  have h6W4 : gx + 2 ≤ W4.heap.size := by rw [hW4, size_setCell, size_setCell]; exact h6
  clear BX BK BR hb b6 h6 hW4 q f qk fk q2 f2
  have BX := BXW4
  have BK := BKW4
  have BR := BRW4
  have hb := hbW4
  have b6 := b6W4
  have h6 := h6W4
  clear BXW4 BKW4 BRW4 hbW4 b6W4 h6W4
  go_loopw [43, 11, 12, 13] (fun i _ _ _ W => ∃ (k : Nat) (lv : List (Nd × Value)) (na : Option Addr) (nc : Nat), k ≤ m ∧ i = .int .i64 ((k : Nat) : Int) ∧ Below w.heap.size w W ∧ Below gx wq W ∧ gx + 2 ≤ W.heap.size ∧ Box W w.heap.size #[.int .i64 0, .slice none 0 0, .slice none 0 0, .int .i64 0, .slice none 0 0, .slice none 0 0] 29 ∧ Box W gx #[.int .i64 r0, .slice na lv.length nc, .slice none 0 0, .int .i64 0, .slice none 0 0, .slice none 0 0] 29 ∧ Box W (gx + 1) #[.bool k0, .bool false, .bool false, .bool false] 65 ∧ Acc W (gx + 2) 57 3 (.slice na lv.length nc) (lv.map Nd.cells) ∧ Hid (∀ n ∈ lv, Acc W (gx + 2) 3 1 n.2 (intRows n.1.links)) ∧ Hid (allR (nodeR rdA sig) ((nodesW ps).take k) = some (lv.map Prod.fst) ∧ lv.length ≤ k)) (fun i _ _ _ _ => m - (intOf i).toNat)
  case atStart => exact ⟨0, [], none, 0, Nat.zero_le _, rfl, hb, b6, h6, BR, BX, BK, Acc.nil _ _ _ _, (fun n hn => by cases hn), by rw [List.take_zero]; exact ⟨rfl, Nat.le_refl _⟩⟩
  case round =>
    clear hb b6 h6 BR BX BK
    obtain ⟨k, lv, na, nc, hk, rfl, hb, b6, h6, BR, BX, BK, acc, HLK, HR⟩ := hrel
    have HL : Hid ((lv.map Nd.cells).length = lv.length) := by show _ = _; simp
    have hrk := HR.out.2
    have hlz : lv.length ≤ 1100000 := by omega
    by_cases hkl : k < m
    · obtain ⟨x, hxw, hx⟩ := nodesW_get (m := m + 1) (ps := ps) (by rw [← HN.out]) (show k + 1 < m + 1 by omega)
      have HX := Lib.hid hxw
      have hxz := HPZ.out x (List.mem_of_getElem? hx)
      have hc := StrsAt.cellAt HST.out hx
      rw [Nat.zero_add, Nat.add_comm] at hc
      have hc := (b6.cell (p := ⟨gp, 1 + k, none⟩) hgq).trans hc
      clear hxw hx
      go_wp2_with fail
      refine (readNode_ct _ sig x _ (HCT.out.below hb) (by omega) (HE.out.below hb)).mono ?_
      rintro e w7 ⟨la, lc, rfl, accl, b7⟩
      obtain ⟨j, hj⟩ : ∃ j, j = nodeJ rdA sig x := ⟨_, rfl⟩
      rw [← hj] at accl ⊢
      have HJ := Lib.hid hj
      have accl := accl.le (b' := gx + 2) h6
      have BR := BR.below b7
      have BX := BX.below b7
      have BK := BK.below b7
      have acc := acc.below b7
      have HLK : Hid (∀ n ∈ lv, Acc _ (gx + 2) 3 1 n.2 (intRows n.1.links)) := fun n hn => (HLK.out n hn).below b7
      have hb := bthen hb b7
      have b6 := b6.trans (b7.mono (by omega))
      have h6 := Nat.le_trans h6 b7.size
      clear b7 hj hc
      cases hnk : nodeK rdA sig x with
      | false =>
        have HF := Lib.hid (parA_none (sig := sig) (s := s) (by rw [← HP.out]; exact parsR_no (readR_n1 (allR_none (List.mem_of_getElem? HX.out) (nodeR_no hnk)))))
        have BR := BR.alloc (.cells #[.int .i64 j.ctl, .int .i64 j.par, .slice la j.links.length lc] 57)
        have hb := bthen hb (balloc w7 (.cells #[.int .i64 j.ctl, .int .i64 j.par, .slice la j.links.length lc] 57))
        have q2 := BR.cell
        have f2 := BR.free
        clear hnk
        go_wp2_with fail
        rw [HF.out.1, HF.out.2]
        refine bodyPost_ret (v := .tuple #[.agg #[.int .i64 0, .slice none 0 0, .slice none 0 0, .int .i64 0, .slice none 0 0, .slice none 0 0], .bool false]) (by simp [results, Tryz.results8, go_sem, q2]) rfl ⟨_, _, rfl, noBig_own _ _, by simp, ?_⟩
        repeat (refine Below.setCell ?_ (by dsimp only; omega) _)
        exact hb
      | true =>
        have HT := Lib.hid (allR_take HR.out.1 HX.out (nodeR_yes hnk))
        rw [← HJ.out] at HT
        clear hnk
        have bn := balloc w7 (.cells #[.int .i64 j.ctl, .int .i64 j.par, .slice la j.links.length lc] 57)
        have BN : Box (w7.alloc (.cells #[.int .i64 j.ctl, .int .i64 j.par, .slice la j.links.length lc] 57)) w7.heap.size #[.int .i64 j.ctl, .int .i64 j.par, .slice la j.links.length lc] 57 := Box.new _ _ _
        have accl := accl.below bn
        have BR := BR.below bn
        have BX := BX.below bn
        have BK := BK.below bn
        have acc := acc.below bn
        have HLK : Hid (∀ n ∈ lv, Acc _ (gx + 2) 3 1 n.2 (intRows n.1.links)) := fun n hn => (HLK.out n hn).below bn
        have hb := bthen hb bn
        have b6 := b6.trans (bn.mono (by omega))
        have h6 := Nat.le_trans h6 bn.size
        have q := BX.cell
        have q0 := BN.cell
        have qq := (BX.alloc (.cells #[.int .i64 j.ctl, .int .i64 j.par, .slice la j.links.length lc] 57)).cell
        go_wp2_with (at_builtin; refine app1g _ _ rfl (.tmp 57) (.tmp 59) 24 rfl (gx + 2) 57 3 40 (.agg #[.int .i64 0, .int .i64 0, .slice none 0 0]) Tryz.underlying24 inf_nd rfl (by decide) (by decide) _ (lv.map Nd.cells) (by rfl) acc [.int .i64 j.ctl, .int .i64 j.par, .slice la j.links.length lc] _ rfl (by simp [Value.oneCell']) (by rfl) (by first | rfl | simp) (by rw [HL.out]; omega) h6 ?_)
        intro g c2 w10 acc9 hg
        try rw [HL.out] at acc9
        try rw [HL.out]
        have hb2 := grown_below hb acc hg (by omega) (by omega)
        have b62 := grown_below b6 acc hg (by omega) (by omega)
        have h62 := Nat.le_trans h6 hg.size
        have BX2 := BX.keep (grown_block acc hg (by omega) BX.lt)
        have BK2 := BK.keep (grown_block acc hg (by omega) BK.lt)
        have BR2 := BR.keep (grown_block acc hg (by omega) BR.lt)
        have accl2 := accl.beside acc (by decide) hg
        have HLK2 : Hid (∀ n ∈ lv, Acc w10 (gx + 2) 3 1 n.2 (intRows n.1.links)) := fun n hn => (HLK.out n hn).beside acc (by decide) hg
        clear acc hg hb b6 h6 BX BK BR accl HLK q q0 qq BN bn
        have q := BX2.cell
        have f := BX2.free
        go_wp2_with fail
        go_roundw
        case rel =>
          have hkp : ∀ (u : Value) (j : Nat), gx + 2 ≤ j → (w10.setCell ⟨gx, 1, none⟩ u).heap[j]? = w10.heap[j]? := fun u j hj => heap_setCell_other _ _ _ _ (by dsimp only; omega)
          have HLN2 : (lv ++ [(j, Value.slice la j.links.length lc)]).length = lv.length + 1 := by simp
          refine ⟨k + 1, lv ++ [(j, .slice la j.links.length lc)], some ⟨g, 0, none⟩, c2, by omega, by go_num, hb2.setCell (by dsimp only; omega) _, b62.setCell (by dsimp only; omega) _, by rw [size_setCell]; exact h62, BR2.other _ (by dsimp only; omega), ?_, BK2.other _ (by dsimp only; omega), ?_, ?_, ?_⟩
          · rw [HLN2]; exact BX2.set 1 _
          · rw [HLN2]
            refine Acc.keep ?_ (fun j hj _ => hkp _ j hj)
            rw [List.map_append]
            exact acc9
          · intro n hn
            rcases List.mem_append.1 hn with h | h
            · exact (HLK2.out n h).keep (fun j hj _ => hkp _ j hj)
            · obtain rfl := List.mem_singleton.1 h
              exact accl2.keep (fun j hj _ => hkp _ j hj)
          · rw [List.map_append]; exact ⟨HT.out, by simp; omega⟩
        case measure => simp [intOf]; omega
    · have hkm : m = k := by omega
      have HNL : Hid (allK (nodeR rdA sig) (nodesW ps) = true ∧ allV (nodeR rdA sig) (nodesW ps) = lv.map Prod.fst) := by
        have := HR.out.1
        rw [List.take_of_length_le (by rw [nodesW_len (m := m + 1) (by rw [← HN.out])]; omega)] at this
        have := allV_some this
        exact ⟨this.2, this.1⟩
      subst hkm
      have hc1 := (b6.cell (p := ⟨gp, m + 1, none⟩) hgq).trans (HC.out (m + 1) (by omega))
      have hz1 := HPI.out (m + 1) (by omega)
      obtain ⟨p1, hp1⟩ : ∃ p, p = part ps (m + 1) := ⟨_, rfl⟩
      rw [← hp1] at hc1 hz1
      have HP1 := Lib.hid hp1
      clear hp1
      go_wp2_with fail
      refine (splitAt_ct p1 32 _ (by omega)).mono ?_
      rintro e w8 ⟨g1, d1, rfl, acc1, b8⟩
      have acc1 := acc1.le (b' := gx + 2) h6
      have BR := BR.below b8
      have BX := BX.below b8
      have BK := BK.below b8
      have acc := acc.below b8
      have HLK : Hid (∀ n ∈ lv, Acc _ (gx + 2) 3 1 n.2 (intRows n.1.links)) := fun n hn => (HLK.out n hn).below b8
      have hb := bthen hb b8
      have b6 := b6.trans (b8.mono (by omega))
      have h6 := Nat.le_trans h6 b8.size
      obtain ⟨N1, hN1⟩ : ∃ n, n = (splitP p1 32).length := ⟨_, rfl⟩
      have hn1 := splitP_pos p1 32
      have hl1 := splitP_length p1 32
      have HN1 := Lib.hid hN1
      rw [← hN1] at acc1 hn1 hl1 ⊢
      have hcd1 : N1 ≤ d1 := by
        obtain ⟨a, c, e, hc, _⟩ := acc1.own.row (M := N1) (by rw [len_strRows, ← hN1]; exact Nat.le_refl _)
        rw [len_strRows, ← hN1] at e hc
        simp only [Value.slice.injEq] at e
        omega
      clear b8 hN1 hc1
      go_wp2_with (refine slice_tail _ rfl _ 26 9 rfl Tryz.underlying26 Tryz.sizeOf9 _ _ _ (by rfl) hn1 hcd1 ?_)
      intro o1 HO1
      go_wp2_with fail
      refine (readNumbers_ct _ (wordsR p1) _ (acc1.tail (by rw [← HN1.out]; omega) (fun x hx => by have := splitP_size p1 32 x hx; omega) hn1 o1 HO1.out _ (by omega)) (by rw [wordsR_len, ← HN1.out]; omega) (fun x hx => by have := wordsR_size hx; omega) (HE.out.below hb)).mono ?_
      rintro e w9 ⟨sa, sc, rfl, accS, b9⟩
      have accS := accS.le (b' := gx + 2) h6
      have BR := BR.below b9
      have BX := BX.below b9
      have BK := BK.below b9
      have acc := acc.below b9
      have HLK : Hid (∀ n ∈ lv, Acc _ (gx + 2) 3 1 n.2 (intRows n.1.links)) := fun n hn => (HLK.out n hn).below b9
      have hb := bthen hb b9
      have b6 := b6.trans (b9.mono (by omega))
      have h6 := Nat.le_trans h6 b9.size
      obtain ⟨SL, hSL⟩ : ∃ n, n = (allV rdA (wordsR p1)).length := ⟨_, rfl⟩
      rw [← hSL] at accS ⊢
      have HSL := Lib.hid hSL
      obtain ⟨k1, hk1⟩ : ∃ b, b = allK rdA (wordsR p1) := ⟨_, rfl⟩
      rw [← hk1]
      have HK1 := Lib.hid hk1
      clear b9 hSL hk1 acc1
      have hc2 := (b6.cell (p := ⟨gp, m + 2, none⟩) hgq).trans (HC.out (m + 2) (by omega))
      have hz2 := HPI.out (m + 2) (by omega)
      obtain ⟨p2, hp2⟩ : ∃ p, p = part ps (m + 2) := ⟨_, rfl⟩
      rw [← hp2] at hc2 hz2
      have HP2 := Lib.hid hp2
      clear hp2
      have q := BX.cell
      have f := BX.free
      have qk := BK.cell
      have fk := BK.free
      have q2 := BR.cell
      have f2 := BR.free
      go_wp2_with fail
      obtain ⟨W10, hW10⟩ : ∃ V, V = (w9.setCell ⟨gx, 2, none⟩ (.slice sa SL sc)).setCell ⟨gx + 1, 1, none⟩ (.bool k1) := ⟨_, rfl⟩
      first | rw [← hW10] | fail "W10"
      have BXW10 : Box W10 gx #[.int .i64 r0, .slice na lv.length nc, .slice sa SL sc, .int .i64 0, .slice none 0 0, .slice none 0 0] 29 := by rw [hW10]; exact (BX.set 2 _).other _ (by dsimp only; omega)
      have BKW10 : Box W10 (gx + 1) #[.bool k0, .bool k1, .bool false, .bool false] 65 := by rw [hW10]; exact (BK.other _ (by dsimp only; omega)).set 1 _
      have BRW10 : Box W10 w.heap.size #[.int .i64 0, .slice none 0 0, .slice none 0 0, .int .i64 0, .slice none 0 0, .slice none 0 0] 29 := by rw [hW10]; exact (BR.other _ (by dsimp only; omega)).other _ (by dsimp only; omega)
      have acc := acc.keep (w' := W10) (fun j hj _ => by rw [hW10]; rw [heap_setCell_other _ _ _ _ (by dsimp only; omega)]; rw [heap_setCell_other _ _ _ _ (by dsimp only; omega)])
      have accS := accS.keep (w' := W10) (fun j hj _ => by rw [hW10]; rw [heap_setCell_other _ _ _ _ (by dsimp only; omega)]; rw [heap_setCell_other _ _ _ _ (by dsimp only; omega)])
      have HLK : Hid (∀ n ∈ lv, Acc W10 (gx + 2) 3 1 n.2 (intRows n.1.links)) := fun n hn => (HLK.out n hn).keep (fun j hj _ => by rw [hW10]; rw [heap_setCell_other _ _ _ _ (by dsimp only; omega)]; rw [heap_setCell_other _ _ _ _ (by dsimp only; omega)])
      have hbW10 : Below w.heap.size w W10 := by rw [hW10]; exact (hb.setCell (by dsimp only; omega) _).setCell (by dsimp only; omega) _
      have b6W10 : Below gx wq W10 := by rw [hW10]; exact (b6.setCell (by dsimp only; omega) _).setCell (by dsimp only; omega) _
      have h6W10 : gx + 2 ≤ W10.heap.size := by rw [hW10, size_setCell, size_setCell]; exact h6
      clear BX BK BR hb b6 h6 hW10 q f qk fk q2 f2
      have BX := BXW10
      have BK := BKW10
      have BR := BRW10
      have hb := hbW10
      have b6 := b6W10
      have h6 := h6W10
      clear BXW10 BKW10 BRW10 hbW10 b6W10 h6W10
      refine (rdE_ct p2 _ (by omega) (HE.out.below hb)).mono ?_
      rintro e w11 ⟨rfl, b11⟩
      have BR := BR.below b11
      have BX := BX.below b11
      have BK := BK.below b11
      have acc := acc.below b11
      have accS := accS.below b11
      have HLK : Hid (∀ n ∈ lv, Acc _ (gx + 2) 3 1 n.2 (intRows n.1.links)) := fun n hn => (HLK.out n hn).below b11
      have hb := bthen hb b11
      have b6 := b6.trans (b11.mono (by omega))
      have h6 := Nat.le_trans h6 b11.size
      obtain ⟨ed, hed⟩ : ∃ r, r = (rdA p2).getD 0 := ⟨_, rfl⟩
      obtain ⟨k2, hk2⟩ : ∃ b, b = (rdA p2).isSome := ⟨_, rfl⟩
      rw [← hed, ← hk2]
      have HED := Lib.hid hed
      have HK2 := Lib.hid hk2
      clear b11 hed hk2 hc2
      have hc3 := (b6.cell (p := ⟨gp, m + 3, none⟩) hgq).trans (HC.out (m + 3) (by omega))
      have hz3 := HPI.out (m + 3) (by omega)
      obtain ⟨p3, hp3⟩ : ∃ p, p = part ps (m + 3) := ⟨_, rfl⟩
      rw [← hp3] at hc3 hz3
      have HP3 := Lib.hid hp3
      clear hp3
      have q := BX.cell
      have f := BX.free
      have qk := BK.cell
      have fk := BK.free
      have q2 := BR.cell
      have f2 := BR.free
      go_wp2_with fail
      obtain ⟨W12, hW12⟩ : ∃ V, V = (w11.setCell ⟨gx, 3, none⟩ (.int .i64 ed)).setCell ⟨gx + 1, 2, none⟩ (.bool k2) := ⟨_, rfl⟩
      first | rw [← hW12] | fail "W12"
      have BXW12 : Box W12 gx #[.int .i64 r0, .slice na lv.length nc, .slice sa SL sc, .int .i64 ed, .slice none 0 0, .slice none 0 0] 29 := by rw [hW12]; exact (BX.set 3 _).other _ (by dsimp only; omega)
      have BKW12 : Box W12 (gx + 1) #[.bool k0, .bool k1, .bool k2, .bool false] 65 := by rw [hW12]; exact (BK.other _ (by dsimp only; omega)).set 2 _
      have BRW12 : Box W12 w.heap.size #[.int .i64 0, .slice none 0 0, .slice none 0 0, .int .i64 0, .slice none 0 0, .slice none 0 0] 29 := by rw [hW12]; exact (BR.other _ (by dsimp only; omega)).other _ (by dsimp only; omega)
      have acc := acc.keep (w' := W12) (fun j hj _ => by rw [hW12]; rw [heap_setCell_other _ _ _ _ (by dsimp only; omega)]; rw [heap_setCell_other _ _ _ _ (by dsimp only; omega)])
      have accS := accS.keep (w' := W12) (fun j hj _ => by rw [hW12]; rw [heap_setCell_other _ _ _ _ (by dsimp only; omega)]; rw [heap_setCell_other _ _ _ _ (by dsimp only; omega)])
      have HLK : Hid (∀ n ∈ lv, Acc W12 (gx + 2) 3 1 n.2 (intRows n.1.links)) := fun n hn => (HLK.out n hn).keep (fun j hj _ => by rw [hW12]; rw [heap_setCell_other _ _ _ _ (by dsimp only; omega)]; rw [heap_setCell_other _ _ _ _ (by dsimp only; omega)])
      have hbW12 : Below w.heap.size w W12 := by rw [hW12]; exact (hb.setCell (by dsimp only; omega) _).setCell (by dsimp only; omega) _
      have b6W12 : Below gx wq W12 := by rw [hW12]; exact (b6.setCell (by dsimp only; omega) _).setCell (by dsimp only; omega) _
      have h6W12 : gx + 2 ≤ W12.heap.size := by rw [hW12, size_setCell, size_setCell]; exact h6
      clear BX BK BR hb b6 h6 hW12 q f qk fk q2 f2
      have BX := BXW12
      have BK := BKW12
      have BR := BRW12
      have hb := hbW12
      have b6 := b6W12
      have h6 := h6W12
      clear BXW12 BKW12 BRW12 hbW12 b6W12 h6W12
      refine (splitAt_ct p3 32 _ (by omega)).mono ?_
      rintro e w13 ⟨g3, d3, rfl, acc3, b13⟩
      have acc3 := acc3.le (b' := gx + 2) h6
      have BR := BR.below b13
      have BX := BX.below b13
      have BK := BK.below b13
      have acc := acc.below b13
      have accS := accS.below b13
      have HLK : Hid (∀ n ∈ lv, Acc _ (gx + 2) 3 1 n.2 (intRows n.1.links)) := fun n hn => (HLK.out n hn).below b13
      have hb := bthen hb b13
      have b6 := b6.trans (b13.mono (by omega))
      have h6 := Nat.le_trans h6 b13.size
      obtain ⟨N3, hN3⟩ : ∃ n, n = (splitP p3 32).length := ⟨_, rfl⟩
      have hn3 := splitP_pos p3 32
      have hl3 := splitP_length p3 32
      have HN3 := Lib.hid hN3
      rw [← hN3] at acc3 hn3 hl3 ⊢
      have hcd3 : N3 ≤ d3 := by
        obtain ⟨a, c, e, hc, _⟩ := acc3.own.row (M := N3) (by rw [len_strRows, ← hN3]; exact Nat.le_refl _)
        rw [len_strRows, ← hN3] at e hc
        simp only [Value.slice.injEq] at e
        omega
      clear b13 hN3 hc3
      have hc4 := (b6.cell (p := ⟨gp, m + 4, none⟩) hgq).trans (HC.out (m + 4) (by omega))
      have hz4 := HPI.out (m + 4) (by omega)
      obtain ⟨p4, hp4⟩ : ∃ p, p = part ps (m + 4) := ⟨_, rfl⟩
      rw [← hp4] at hc4 hz4
      have HP4 := Lib.hid hp4
      clear hp4
      have q := BX.cell
      have f := BX.free
      have qk := BK.cell
      have fk := BK.free
      have q2 := BR.cell
      have f2 := BR.free
      go_wp2_with (refine slice_tail _ rfl _ 26 9 rfl Tryz.underlying26 Tryz.sizeOf9 _ _ _ (by rfl) hn3 hcd3 ?_)
      intro o3 HO3
      go_wp2_with fail
      obtain ⟨W14, hW14⟩ : ∃ V, V = w13.setCell ⟨gx, 4, none⟩ (.slice (some ⟨g3, o3, none⟩) (N3 - 1) (d3 - 1)) := ⟨_, rfl⟩
      first | rw [← hW14] | fail "W14"
      have BXW14 : Box W14 gx #[.int .i64 r0, .slice na lv.length nc, .slice sa SL sc, .int .i64 ed, .slice (some ⟨g3, o3, none⟩) (N3 - 1) (d3 - 1), .slice none 0 0] 29 := by rw [hW14]; exact (BX.set 4 _)
      have BKW14 : Box W14 (gx + 1) #[.bool k0, .bool k1, .bool k2, .bool false] 65 := by rw [hW14]; exact BK.other _ (by dsimp only; omega)
      have BRW14 : Box W14 w.heap.size #[.int .i64 0, .slice none 0 0, .slice none 0 0, .int .i64 0, .slice none 0 0, .slice none 0 0] 29 := by rw [hW14]; exact (BR.other _ (by dsimp only; omega))
      have acc := acc.keep (w' := W14) (fun j hj _ => by rw [hW14]; rw [heap_setCell_other _ _ _ _ (by dsimp only; omega)])
      have accS := accS.keep (w' := W14) (fun j hj _ => by rw [hW14]; rw [heap_setCell_other _ _ _ _ (by dsimp only; omega)])
      have acc3 := acc3.keep (w' := W14) (fun j hj _ => by rw [hW14]; rw [heap_setCell_other _ _ _ _ (by dsimp only; omega)])
      have HLK : Hid (∀ n ∈ lv, Acc W14 (gx + 2) 3 1 n.2 (intRows n.1.links)) := fun n hn => (HLK.out n hn).keep (fun j hj _ => by rw [hW14]; rw [heap_setCell_other _ _ _ _ (by dsimp only; omega)])
      have hbW14 : Below w.heap.size w W14 := by rw [hW14]; exact hb.setCell (by dsimp only; omega) _
      have b6W14 : Below gx wq W14 := by rw [hW14]; exact b6.setCell (by dsimp only; omega) _
      have h6W14 : gx + 2 ≤ W14.heap.size := by rw [hW14, size_setCell]; exact h6
      clear BX BK BR hb b6 h6 hW14 q f qk fk q2 f2
      have BX := BXW14
      have BK := BKW14
      have BR := BRW14
      have hb := hbW14
      have b6 := b6W14
      have h6 := h6W14
      clear BXW14 BKW14 BRW14 hbW14 b6W14 h6W14
      refine (splitAt_ct p4 32 _ (by omega)).mono ?_
      rintro e w15 ⟨g4, d4, rfl, acc4, b15⟩
      have acc4 := acc4.le (b' := gx + 2) h6
      have BR := BR.below b15
      have BX := BX.below b15
      have BK := BK.below b15
      have acc := acc.below b15
      have accS := accS.below b15
      have acc3 := acc3.below b15
      have HLK : Hid (∀ n ∈ lv, Acc _ (gx + 2) 3 1 n.2 (intRows n.1.links)) := fun n hn => (HLK.out n hn).below b15
      have hb := bthen hb b15
      have b6 := b6.trans (b15.mono (by omega))
      have h6 := Nat.le_trans h6 b15.size
      obtain ⟨N4, hN4⟩ : ∃ n, n = (splitP p4 32).length := ⟨_, rfl⟩
      have hn4 := splitP_pos p4 32
      have hl4 := splitP_length p4 32
      have HN4 := Lib.hid hN4
      rw [← hN4] at acc4 hn4 hl4 ⊢
      have hcd4 : N4 ≤ d4 := by
        obtain ⟨a, c, e, hc, _⟩ := acc4.own.row (M := N4) (by rw [len_strRows, ← hN4]; exact Nat.le_refl _)
        rw [len_strRows, ← hN4] at e hc
        simp only [Value.slice.injEq] at e
        omega
      clear b15 hN4 hc4
      go_wp2_with (refine slice_tail _ rfl _ 26 9 rfl Tryz.underlying26 Tryz.sizeOf9 _ _ _ (by rfl) hn4 hcd4 ?_)
      intro o4 HO4
      go_wp2_with fail
      refine (readWires_ct _ (wordsR p4) _ (acc4.tail (by rw [← HN4.out]; omega) (fun x hx => by have := splitP_size p4 32 x hx; omega) hn4 o4 HO4.out _ (by omega)) (by rw [wordsR_len, ← HN4.out]; omega) (fun x hx => by have := wordsR_size hx; omega) (HE.out.below hb)).mono ?_
      rintro e w16 ⟨ia, ic, rfl, accI, b16⟩
      have accI := accI.le (b' := gx + 2) h6
      have BR := BR.below b16
      have BX := BX.below b16
      have BK := BK.below b16
      have acc := acc.below b16
      have accS := accS.below b16
      have acc3 := acc3.below b16
      have HLK : Hid (∀ n ∈ lv, Acc _ (gx + 2) 3 1 n.2 (intRows n.1.links)) := fun n hn => (HLK.out n hn).below b16
      have hb := bthen hb b16
      have b6 := b6.trans (b16.mono (by omega))
      have h6 := Nat.le_trans h6 b16.size
      obtain ⟨IL, hIL⟩ : ∃ n, n = (allV (wireR rdA) (wordsR p4)).length := ⟨_, rfl⟩
      rw [← hIL] at accI ⊢
      have HIL := Lib.hid hIL
      obtain ⟨k3, hk3⟩ : ∃ b, b = allK (wireR rdA) (wordsR p4) := ⟨_, rfl⟩
      rw [← hk3]
      have HK3 := Lib.hid hk3
      clear b16 hIL hk3 acc4
      have HF4 : Hid ((k0 && (k1 && (k2 && k3))) = false → parV sig s = noBig ∧ parB sig s = false) := fun h => by
        have hl : ps.length = m + 5 := HN.out.symm
        have hn : readR rdA sig ps = none := by
          cases hk0 : k0 with
          | false => exact readR_n0 (by have := HK0.out; rw [hk0] at this; cases hh : rdA (part ps 0) with | none => rfl | some x => rw [hh] at this; cases this)
          | true =>
            cases hk1 : k1 with
            | false => exact readR_n2 (by rw [hl, show m + 5 - 4 = m + 1 by omega, ← HP1.out]; exact allK_none (HK1.out.symm.trans hk1))
            | true =>
              cases hk2 : k2 with
              | false => exact readR_n3 (by rw [hl, show m + 5 - 3 = m + 2 by omega, ← HP2.out]; have := HK2.out; rw [hk2] at this; cases hh : rdA p2 with | none => rfl | some x => rw [hh] at this; cases this)
              | true =>
                have hk3 : k3 = false := by rw [hk0, hk1, hk2] at h; simpa using h
                exact readR_n4 (by rw [hl, show m + 5 - 1 = m + 4 by omega, ← HP4.out]; exact allK_none (HK3.out.symm.trans hk3))
        exact parA_none (by rw [← HP.out]; exact parsR_no hn)
      cases hkk : (k0 && (k1 && (k2 && k3))) with
      | false =>
        have HF := Lib.hid (HF4.out hkk)
        clear HF4
        have q := BX.cell
        have f := BX.free
        have qk := BK.cell
        have fk := BK.free
        have q2 := BR.cell
        have f2 := BR.free
        have heq : ∀ w' : World, (Op.equalIn 10000 65 (.agg #[.bool k0, .bool k1, .bool k2, .bool k3]) (.agg #[.bool true, .bool true, .bool true, .bool true])).run Tryz.prog w' = .ok false w' := fun w' => by rw [← hkk]; exact eq4 k0 k1 k2 k3 w'
        clear hkk
        go_wp2_with fail
        rw [HF.out.1, HF.out.2]
        refine bodyPost_ret (v := .tuple #[.agg #[.int .i64 0, .slice none 0 0, .slice none 0 0, .int .i64 0, .slice none 0 0, .slice none 0 0], .bool false]) (by simp [results, Tryz.results8, go_sem, q2]) rfl ⟨_, _, rfl, noBig_own _ _, by simp, ?_⟩
        repeat (refine Below.setCell ?_ (by dsimp only; omega) _)
        exact hb
      | true =>
        obtain ⟨rfl, rfl, rfl, rfl⟩ : k0 = true ∧ k1 = true ∧ k2 = true ∧ k3 = true := by simpa using hkk
        clear HF4 hkk
        have hl : ps.length = m + 1 + 4 := HN.out.symm
        have HRD : Hid (readR rdA sig ps = some (bigJ rdA sig ps)) := readR_yes HK0.out.symm HNL.out.1 (by rw [hl, show m + 1 + 4 - 4 = m + 1 by omega, ← HP1.out]; exact HK1.out.symm) (by rw [hl, show m + 1 + 4 - 3 = m + 2 by omega, ← HP2.out]; exact HK2.out.symm) (by rw [hl, show m + 1 + 4 - 1 = m + 4 by omega, ← HP4.out]; exact HK3.out.symm)
        have hB := bigJ_eq (rd := rdA) (sig := sig) hl
        rw [show m + 1 + 1 = m + 2 from rfl, show m + 1 + 2 = m + 3 from rfl, show m + 1 + 3 = m + 4 from rfl, ← HP1.out, ← HP2.out, ← HP3.out, ← HP4.out] at hB
        obtain ⟨b, hb0⟩ : ∃ b, b = bigJ rdA sig ps := ⟨_, rfl⟩
        rw [← hb0] at HRD hB
        have hbd : BigBd b := by rw [hb0]; exact bigJ_bd rdA_64 (by omega) (by rw [← HN.out]; omega) (fun x hx => by have := HPZ.out x hx; omega)
        have e0 : b.roots = r0 := by rw [hB, HR0.out]
        have e1 : b.nodes = lv.map Prod.fst := by rw [hB]; exact HNL.out.2
        have e2 : b.sites = allV rdA (wordsR p1) := by rw [hB]
        have e3 : b.edges = ed := by rw [hB, HED.out]
        have e4 : b.outer = wordsR p3 := by rw [hB]
        have e5 : b.inner = allV (wireR rdA) (wordsR p4) := by rw [hB]
        have HEQ := Lib.hid (And.intro e0 (And.intro e1 (And.intro e2 (And.intro e3 (And.intro e4 e5)))))
        have HBD := Lib.hid hbd
        clear hB hb0 e0 e1 e2 e3 e4 e5 hbd hl
        have q := BX.cell
        have f := BX.free
        have qk := BK.cell
        have fk := BK.free
        have q2 := BR.cell
        have f2 := BR.free
        have heq : ∀ w' : World, (Op.equalIn 10000 65 (.agg #[.bool true, .bool true, .bool true, .bool true]) (.agg #[.bool true, .bool true, .bool true, .bool true])).run Tryz.prog w' = .ok true w' := fun w' => eq4 true true true true w'
        go_wp2_with fail
        obtain ⟨W17, hW17⟩ : ∃ V, V = (w16.setCell ⟨gx, 5, none⟩ (.slice ia IL ic)).setCell ⟨gx + 1, 3, none⟩ (.bool true) := ⟨_, rfl⟩
        first | rw [← hW17] | fail "W17"
        have BXW17 : Box W17 gx #[.int .i64 r0, .slice na lv.length nc, .slice sa SL sc, .int .i64 ed, .slice (some ⟨g3, o3, none⟩) (N3 - 1) (d3 - 1), .slice ia IL ic] 29 := by rw [hW17]; exact (BX.set 5 _).other _ (by dsimp only; omega)
        have BKW17 : Box W17 (gx + 1) #[.bool true, .bool true, .bool true, .bool true] 65 := by rw [hW17]; exact (BK.other _ (by dsimp only; omega)).set 3 _
        have BRW17 : Box W17 w.heap.size #[.int .i64 0, .slice none 0 0, .slice none 0 0, .int .i64 0, .slice none 0 0, .slice none 0 0] 29 := by rw [hW17]; exact (BR.other _ (by dsimp only; omega)).other _ (by dsimp only; omega)
        have acc := acc.keep (w' := W17) (fun j hj _ => by rw [hW17]; rw [heap_setCell_other _ _ _ _ (by dsimp only; omega)]; rw [heap_setCell_other _ _ _ _ (by dsimp only; omega)])
        have accS := accS.keep (w' := W17) (fun j hj _ => by rw [hW17]; rw [heap_setCell_other _ _ _ _ (by dsimp only; omega)]; rw [heap_setCell_other _ _ _ _ (by dsimp only; omega)])
        have acc3 := acc3.keep (w' := W17) (fun j hj _ => by rw [hW17]; rw [heap_setCell_other _ _ _ _ (by dsimp only; omega)]; rw [heap_setCell_other _ _ _ _ (by dsimp only; omega)])
        have accI := accI.keep (w' := W17) (fun j hj _ => by rw [hW17]; rw [heap_setCell_other _ _ _ _ (by dsimp only; omega)]; rw [heap_setCell_other _ _ _ _ (by dsimp only; omega)])
        have HLK : Hid (∀ n ∈ lv, Acc W17 (gx + 2) 3 1 n.2 (intRows n.1.links)) := fun n hn => (HLK.out n hn).keep (fun j hj _ => by rw [hW17]; rw [heap_setCell_other _ _ _ _ (by dsimp only; omega)]; rw [heap_setCell_other _ _ _ _ (by dsimp only; omega)])
        have hbW17 : Below w.heap.size w W17 := by rw [hW17]; exact (hb.setCell (by dsimp only; omega) _).setCell (by dsimp only; omega) _
        have b6W17 : Below gx wq W17 := by rw [hW17]; exact (b6.setCell (by dsimp only; omega) _).setCell (by dsimp only; omega) _
        have h6W17 : gx + 2 ≤ W17.heap.size := by rw [hW17, size_setCell, size_setCell]; exact h6
        clear BX BK BR hb b6 h6 hW17 q f qk fk q2 f2
        have BX := BXW17
        have BK := BKW17
        have BR := BRW17
        have hb := hbW17
        have b6 := b6W17
        have h6 := h6W17
        clear BXW17 BKW17 BRW17 hbW17 b6W17 h6W17
        have hA : BigAt W17 (.agg #[.int .i64 r0, .slice na lv.length nc, .slice sa SL sc, .int .i64 ed, .slice (some ⟨g3, o3, none⟩) (N3 - 1) (d3 - 1), .slice ia IL ic]) b := by
          obtain ⟨e0, e1, e2, e3, e4, e5⟩ := HEQ.out
          rw [← e0, ← e3]
          exact big_of_accs HBD.out e1.symm (Nat.le_refl _) acc HLK.out (by rw [e2]; exact accS) ⟨g3, d3, o3, d3 - 1, by rw [HN3.out], by rw [← HN3.out]; exact HO3.out, by rw [← HN3.out]; omega, by rw [← HN3.out]; exact acc3⟩ (by omega) e4.symm (by rw [e5]; exact accI) W17 (fun _ _ _ => rfl)
        have hcs := HCT.out.below hb
        clear acc accS acc3 accI HLK
        cases hg : goodB sig b with
        | false =>
          have HF := Lib.hid (parA_none (sig := sig) (s := s) (by rw [← HP.out]; exact parsR_bad HRD.out (by rintro ⟨h, _⟩; rw [hg] at h; cases h)))
          refine (implIsBigraph_ct _ _ sig b false _ ⟨hcs, hA⟩ hg).mono ?_
          rintro e w18 ⟨rfl, b18⟩
          have BR := BR.below b18
          have hb := bthen hb b18
          have q2 := BR.cell
          have f2 := BR.free
          clear hg b18
          go_wp2_with fail
          rw [HF.out.1, HF.out.2]
          refine bodyPost_ret (v := .tuple #[.agg #[.int .i64 0, .slice none 0 0, .slice none 0 0, .int .i64 0, .slice none 0 0, .slice none 0 0], .bool false]) (by simp [results, Tryz.results8, go_sem, q2]) rfl ⟨_, _, rfl, noBig_own _ _, by simp, ?_⟩
          repeat (refine Below.setCell ?_ (by dsimp only; omega) _)
          exact hb
        | true =>
          have hG := Lib.hid (good_of hg)
          refine (implIsBigraph_ct _ _ sig b true _ ⟨hcs, hA⟩ hg).mono ?_
          rintro e w18 ⟨rfl, b18⟩
          have BR := BR.below b18
          have BX := BX.below b18
          have hb := bthen hb b18
          have hA := hA.below b18
          have hcs := hcs.below b18
          have HG := Lib.hid hg
          have q := BX.cell
          clear hg b18
          go_wp2_with fail
          refine (bigraphText_ct _ _ sig b _ ⟨hcs, hA⟩ hG.out (HE.out.below hb).tab).mono ?_
          rintro e w19 ⟨rfl, b19⟩
          have BR := BR.below b19
          have BX := BX.below b19
          have hb := bthen hb b19
          have hA := hA.below b19
          obtain ⟨T, hT⟩ : ∃ T, T = textL sig b := ⟨_, rfl⟩
          rw [← hT]
          have HT := Lib.hid hT
          clear q b19 hT hcs
          by_cases he : T = s
          · have hbq : (T.toList == s.toList) = true := by rw [beq_data, decide_eq_true he]
            have hbn : (T.toList != s.toList) = false := by rw [bne, hbq]; rfl
            have HS : Hid (parV sig s = b ∧ parB sig s = true) := par_some (by unfold parA; rw [← HP.out]; exact parsR_text ⟨HSG.out, by rw [← HN.out]; omega, by rw [← HN.out]; omega⟩ HRD.out HG.out (HT.out.symm.trans he))
            have hD := hG.out.bds
            have HCT2 := Lib.hid (RgN.ownBigraph_ct _ b w19 hA (by have := hD.nodes; omega) (fun n hn => by have := hD.links n hn; omega) (by have := hD.sites; omega) hD.outer (by have := hD.inner; omega))
            have q := BX.cell
            clear he hD hA
            go_wp2_with fail
            refine HCT2.out.mono ?_
            rintro e w20 ⟨u, bs, rfl, hB, hND, b20⟩
            obtain ⟨x1, y1, x2, y2, x3, y3, x4, y4, rfl⟩ := hB.at.shape
            have hlt := BR.lt
            have BR := BR.below b20
            have hb := bthen hb b20
            have q2 := BR.cell
            have f2 := BR.free
            clear q HCT2 b20
            go_wp2_with fail
            rw [HS.out.1, HS.out.2]
            refine bodyPost_ret (v := .tuple #[.agg #[.int .i64 b.roots, .slice x1 b.nodes.length y1, .slice x2 b.sites.length y2, .int .i64 b.edges, .slice x3 b.outer.length y3, .slice x4 b.inner.length y4], .bool true]) (by simp [results, Tryz.results8, go_sem, q2]) rfl ⟨_, bs, rfl, (fill6 hB (by omega) _ _ _ _ _ _).mono (by omega), hND, fill6b hb (by omega) _ _ _ _ _ _⟩
          · have hbq : (T.toList == s.toList) = false := by rw [beq_data, decide_eq_false he]
            have hbn : (T.toList != s.toList) = true := by rw [bne, hbq]; rfl
            have HF := Lib.hid (parA_none (sig := sig) (s := s) (by rw [← HP.out]; exact parsR_bad HRD.out (by rintro ⟨_, h⟩; exact he (HT.out.trans h))))
            have q2 := BR.cell
            have f2 := BR.free
            clear he hA
            go_wp2_with fail
            rw [HF.out.1, HF.out.2]
            refine bodyPost_ret (v := .tuple #[.agg #[.int .i64 0, .slice none 0 0, .slice none 0 0, .int .i64 0, .slice none 0 0, .slice none 0 0], .bool false]) (by simp [results, Tryz.results8, go_sem, q2]) rfl ⟨_, _, rfl, noBig_own _ _, by simp, ?_⟩
            repeat (refine Below.setCell ?_ (by dsimp only; omega) _)
            exact hb
end Go.Proofs.YthgelhglfbgagaaGreatDoor
