/- Reading the text of a bigraph: the reference's. -/
import Derived.Test.YthgelhglfbgagaaGreatDoorInB
import Derived.Test.YthgelhglfbgagaaGreatDoorTextS
import Derived.Test.YthgelhglfbgagaaGreatDoorG4
import Derived.Test.YthgelhglfbgagaaGreatDoorTail2
namespace Go.Proofs.YthgelhglfbgagaaGreatDoor
open Go Go.RowKit Go.BigFrame
theorem givesIn_mk {R : Big} {ok : Bool} {w w' : World} {v : Value} (h : ∀ w2 : World, (∀ g, w.heap.size ≤ g → g < w'.heap.size → w2.heap[g]? = w'.heap[g]?) → BigAt w2 v R) (hb : Below w.heap.size w w') : GivesIn R ok w (.returned (.tuple #[v, .bool ok])) w' :=
  ⟨_, _, rfl, BigIn.of_from h, trivial, hb⟩
set_option maxRecDepth 100000 in
set_option maxHeartbeats 16000000 in
theorem specParseBigraph_ct (vs : Value) (sig : List Ctl) (s : ByteArray) (w : World) (h : CtlsAt w vs sig) (hsz : s.size ≤ 1048576) :
    Calls Tryz.prog 6 #[vs, .string s] w (GivesIn (parV sig s) (parB sig s) w) := by
  obtain ⟨W0, hW0⟩ : ∃ W, W = w.alloc (.cells #[.int .i64 0, .slice none 0 0, .slice none 0 0, .int .i64 0, .slice none 0 0, .slice none 0 0] 29) := ⟨_, rfl⟩
  have hA : Below w.heap.size w W0 := by rw [hW0]; exact balloc _ _
  have BR : Box W0 w.heap.size #[.int .i64 0, .slice none 0 0, .slice none 0 0, .int .i64 0, .slice none 0 0, .slice none 0 0] 29 := by rw [hW0]; exact Box.new _ _ _
  have hs0 : w.heap.size + 1 ≤ W0.heap.size := by rw [hW0]; simp
  have HCT := Lib.hid h
  obtain ⟨_, _, rfl, _, hsl, _⟩ := h.open
  clear h
  go_enter Tryz.func6, Tryz.ntmps6
  go_wp2_with fail
  rw [← hW0]
  clear hW0
  refine (l2Parts_ct s _ (by omega)).mono ?_
  rintro e w1 ⟨gp, cp, rfl, hro, b1⟩
  have BR := BR.below b1
  have hb := bthen hA b1
  have hs := Nat.le_trans hs0 b1.size
  obtain ⟨N, hN⟩ : ∃ n, n = (partsS s).length := ⟨_, rfl⟩
  have hN1 : 1 ≤ N := by rw [hN, partsS_len]; exact splitP_pos s 59
  have hNl : N ≤ s.size + 1 := by rw [hN, partsS_len]; exact splitP_length s 59
  have HPZ : Hid (∀ x ∈ partsS s, x.size ≤ s.size) := fun x hx => partsS_size hx
  have hst : StrsAt w1 (.slice (some ⟨gp, 0, none⟩) N cp) (partsS s) := by rw [hN]; exact ⟨hro.row (by rw [len_strRows, ← hN]; omega), fun x hx => by have := HPZ.out x hx; omega⟩
  have hcp : N ≤ cp := by
    obtain ⟨a, c, e, hc, _⟩ := hst.open
    simp only [Value.slice.injEq] at e
    omega
  have HN := Lib.hid hN
  have HST := Lib.hid hst
  rw [← hN]
  clear hA b1 hs0 hro hN hst
  go_wp2_with fail
  cases hsg : sigB sig with
  | false =>
    have HF : Hid (parV sig s = noBig ∧ parB sig s = false) := par_none (by rw [← par_same]; exact parsR_out (by rw [hsg]; simp))
    refine (l2Sig_ct _ sig false _ (HCT.out.below hb) hsg).mono ?_
    rintro e w2 ⟨rfl, b2⟩
    have BR := BR.below b2
    have hb := bthen hb b2
    clear hsg b2
    have q := BR.cell
    have f := BR.free
    go_wp2_with fail
    refine bodyPost_ret (v := .tuple #[.agg #[.int .i64 0, .slice none 0 0, .slice none 0 0, .int .i64 0, .slice none 0 0, .slice none 0 0], .bool false]) (by simp [results, Tryz.results6, go_sem, q]) rfl ⟨_, [], by rw [HF.out.2], by rw [HF.out.1]; exact BigIn.noBig _ _, trivial, ?_⟩
    iterate 6 refine Below.setCell ?_ (by simp) _
    exact hb
  | true =>
    refine (l2Sig_ct _ sig true _ (HCT.out.below hb) hsg).mono ?_
    rintro e w2 ⟨rfl, b2⟩
    have BR := BR.below b2
    have HST := Lib.hid (StrsM.below HST.out b2)
    have hb := bthen hb b2
    have hs := Nat.le_trans hs b2.size
    have HSG := Lib.hid hsg
    clear hsg b2
    go_wp2_with fail
    by_cases hr : 5 ≤ N ∧ N ≤ 13
    case neg =>
      have HF : Hid (parV sig s = noBig ∧ parB sig s = false) := par_none (by rw [← par_same]; exact parsR_out (by rw [← HN.out]; rintro ⟨_, h⟩; exact hr h))
      refine (l1In_ct _ _ _ false (by constructor <;> intro h; cases h; exact (hr (by omega)).elim) _).mono ?_
      rintro e w3 ⟨rfl, rfl⟩
      have q := BR.cell
      have f := BR.free
      go_wp2_with fail
      refine bodyPost_ret (v := .tuple #[.agg #[.int .i64 0, .slice none 0 0, .slice none 0 0, .int .i64 0, .slice none 0 0, .slice none 0 0], .bool false]) (by simp [results, Tryz.results6, go_sem, q]) rfl ⟨_, [], by rw [HF.out.2], by rw [HF.out.1]; exact BigIn.noBig _ _, trivial, ?_⟩
      iterate 6 refine Below.setCell ?_ (by simp) _
      exact hb
    obtain ⟨m, rfl⟩ : ∃ m, N = m + 4 := ⟨N - 4, by omega⟩
    refine (l1In_ct _ _ _ true (by constructor <;> intro _ <;> first | omega | rfl) _).mono ?_
    rintro e w3 ⟨rfl, rfl⟩
    have ei : ((m + 4 : Nat) : Int) - 4 = (m : Int) := by omega
    rw [ei]
    clear ei
    have hm1 : 1 ≤ m := by omega
    have hm9 : m ≤ 9 := by omega
    have hg : ∀ i, i < m + 4 → (partsS s)[i]? = some (part (partsS s) i) := fun i hi => by unfold part; rw [List.getD_eq_getElem?_getD, List.getElem?_eq_getElem (by rw [← HN.out]; exact hi)]; rfl
    have HG := Lib.hid hg
    have hpz : ∀ i, i < m + 4 → (part (partsS s) i).size ≤ s.size := fun i hi => HPZ.out _ (List.mem_of_getElem? (hg i hi))
    have HPI := Lib.hid hpz
    have hc0 := StrsAt.cellAt HST.out (hg 0 (by omega))
    rw [Nat.zero_add] at hc0
    have hp0 := hpz 0 (by omega)
    obtain ⟨p0, hp0e⟩ : ∃ p, p = part (partsS s) 0 := ⟨_, rfl⟩
    have HP0 := Lib.hid hp0e
    rw [← hp0e] at hc0 hp0
    clear hp0e hg hpz
    go_wp2_with fail
    refine (l1Read_ct p0 _ (by omega)).mono ?_
    rintro e w4 ⟨rfl, b4⟩
    have BR := BR.below b4
    have HST := Lib.hid (StrsM.below HST.out b4)
    have hb := bthen hb b4
    have hs := Nat.le_trans hs b4.size
    obtain ⟨r, hr⟩ : ∃ p, p = rdV p0 := ⟨_, rfl⟩
    obtain ⟨k1, hk1⟩ : ∃ b, b = rdB p0 := ⟨_, rfl⟩
    have HR2 : Hid (r = (rdN (part (partsS s) 0)).getD 0) := by show _ = _; rw [hr, HP0.out]; rfl
    have HK1 : Hid (k1 = (rdN (part (partsS s) 0)).isSome) := by show _ = _; rw [hk1, HP0.out]; rfl
    rw [← hr, ← hk1]
    clear b4 hr hk1 hc0
    have hdr : StrsAt w4 (.slice (some ⟨gp, m, none⟩) 4 (cp - m)) ((partsS s).drop m) := by have := StrsAt.drop HST.out m (by omega); rwa [show m + 4 - m = 4 by omega] at this
    have HDR := Lib.hid hdr
    clear hdr
    go_wp2_with (refine slice_from _ rfl _ _ 26 9 rfl Tryz.underlying26 Tryz.sizeOf9 gp (m + 4) cp m (by rfl) (by rfl) (by omega) (by omega) ?_)
    refine (l2ReadEnd_ct r _ ((partsS s).drop m) _ HDR.out (by rw [List.length_drop, ← HN.out]; omega) (fun x hx => by have := HPZ.out x (List.mem_of_mem_drop hx); omega)).mono ?_
    rintro e w5 ⟨ed, sa, sn, sc, oa, on, oc, ia, inn, ic, rfl, b5, hend⟩
    obtain ⟨EK, hEK⟩ : ∃ b, b = endK rdN ((partsS s).drop m) := ⟨_, rfl⟩
    rw [← hEK] at hend ⊢
    have HEK := Lib.hid hEK
    have HEND := Lib.hid hend
    have BR := BR.below b5
    have HST := Lib.hid (StrsM.below HST.out b5)
    have hb := bthen hb b5
    obtain ⟨n0, hn0⟩ : ∃ n, n = w4.heap.size := ⟨_, rfl⟩
    have h4n : w.heap.size + 1 ≤ n0 := by omega
    have h45 : n0 ≤ w5.heap.size := by have := b5.size; omega
    rw [← hn0] at HEND
    clear b5 hEK hend HDR hs hn0
    obtain ⟨gx, hgx⟩ : ∃ g, g = w5.heap.size := ⟨_, rfl⟩
    cases k1 with
    | false =>
      have HF : Hid (parV sig s = noBig ∧ parB sig s = false) := par_none (by rw [← par_same]; exact parsR_no (readR_n0 (by have := HK1.out; cases h : rdN (part (partsS s) 0) with | none => rfl | some x => rw [h] at this; cases this)))
      have BR := BR.alloc (.cells #[.int .i64 r, .slice none 0 0, .slice sa sn sc, .int .i64 ed, .slice oa on oc, .slice ia inn ic] 29)
      have hb := bthen hb (balloc w5 (.cells #[.int .i64 r, .slice none 0 0, .slice sa sn sc, .int .i64 ed, .slice oa on oc, .slice ia inn ic] 29))
      have q := BR.cell
      have f := BR.free
      go_wp2_with fail
      refine bodyPost_ret (v := .tuple #[.agg #[.int .i64 0, .slice none 0 0, .slice none 0 0, .int .i64 0, .slice none 0 0, .slice none 0 0], .bool false]) (by simp [results, Tryz.results6, go_sem, q]) rfl ⟨_, [], by rw [HF.out.2], by rw [HF.out.1]; exact BigIn.noBig _ _, trivial, ?_⟩
      iterate 6 refine Below.setCell ?_ (by simp) _
      exact hb
    | true =>
    cases EK with
    | false =>
      have HF : Hid (parV sig s = noBig ∧ parB sig s = false) := par_none (by rw [← par_same]; exact parsR_no (readR_end HN.out.symm HEK.out.symm))
      have BR := BR.alloc (.cells #[.int .i64 r, .slice none 0 0, .slice sa sn sc, .int .i64 ed, .slice oa on oc, .slice ia inn ic] 29)
      have hb := bthen hb (balloc w5 (.cells #[.int .i64 r, .slice none 0 0, .slice sa sn sc, .int .i64 ed, .slice oa on oc, .slice ia inn ic] 29))
      have q := BR.cell
      have f := BR.free
      go_wp2_with fail
      refine bodyPost_ret (v := .tuple #[.agg #[.int .i64 0, .slice none 0 0, .slice none 0 0, .int .i64 0, .slice none 0 0, .slice none 0 0], .bool false]) (by simp [results, Tryz.results6, go_sem, q]) rfl ⟨_, [], by rw [HF.out.2], by rw [HF.out.1]; exact BigIn.noBig _ _, trivial, ?_⟩
      iterate 6 refine Below.setCell ?_ (by simp) _
      exact hb
    | true =>
    obtain ⟨hed, hsn, haS, hoT, hin, haI⟩ := HEND.out rfl
    have HAS := Lib.hid haS
    have HOT := Lib.hid hoT
    have HAI := Lib.hid haI
    have HED := Lib.hid hed
    have HSN := Lib.hid hsn
    have HIN := Lib.hid hin
    clear haS hoT haI hed hsn hin HEND
    go_wp2_with fail
    obtain ⟨W6, hW6⟩ : ∃ V, V = w5.alloc (.cells #[.int .i64 r, .slice none 0 0, .slice sa sn sc, .int .i64 ed, .slice oa on oc, .slice ia inn ic] 29) := ⟨_, rfl⟩
    first | rw [← hW6] | fail "W6"
    have b6 : Below w5.heap.size w5 W6 := by rw [hW6]; exact balloc _ _
    have BX : Box W6 gx #[.int .i64 r, .slice none 0 0, .slice sa sn sc, .int .i64 ed, .slice oa on oc, .slice ia inn ic] 29 := by rw [hW6]; exact Box.new' _ _ _ hgx
    have BR := BR.below b6
    have hb := bthen hb b6
    have h6 : gx + 1 ≤ W6.heap.size := by rw [hW6, hgx]; simp
    have b6 : Below gx w5 W6 := by rw [hgx]; exact b6
    have BRl : w.heap.size < gx := by omega
    have HGX := Lib.hid hgx
    try rw [← hgx]
    clear hW6 hgx
    go_loopw [12, 13, 14] (fun i _ _ W => ∃ (k : Nat) (lv : List (Nd × Value)) (na : Option Addr) (nc : Nat), k + 1 ≤ m ∧ i = .int .i64 ((k + 1 : Nat) : Int) ∧ Below w.heap.size w W ∧ Below gx w5 W ∧ gx + 1 ≤ W.heap.size ∧ Box W w.heap.size #[.int .i64 0, .slice none 0 0, .slice none 0 0, .int .i64 0, .slice none 0 0, .slice none 0 0] 29 ∧ Box W gx #[.int .i64 r, .slice na lv.length nc, .slice sa sn sc, .int .i64 ed, .slice oa on oc, .slice ia inn ic] 29 ∧ Acc W (gx + 1) 57 3 (.slice na lv.length nc) (lv.map Nd.cells) ∧ Hid (∀ n ∈ lv, Acc W (gx + 1) 3 1 n.2 (intRows n.1.links)) ∧ Hid (allR (nodeR rdN sig) ((nodesW (partsS s)).take k) = some (lv.map Prod.fst) ∧ lv.length ≤ k)) (fun i _ _ _ => m - (intOf i).toNat)
    case atStart => exact ⟨0, [], none, 0, hm1, rfl, hb, b6, h6, BR, BX, Acc.nil _ _ _ _, (fun n hn => by cases hn), by rw [List.take_zero]; exact ⟨rfl, Nat.le_refl _⟩⟩
    case round =>
      clear hb b6 h6 BR BX
      obtain ⟨k, lv, na, nc, hk, rfl, hb, b6, h6, BR, BX, acc, HLK, HR⟩ := hrel
      have HL : Hid ((lv.map Nd.cells).length = lv.length) := by show _ = _; simp
      have hrk := HR.out.2
      have ei : ((k + 1 : Nat) : Int) = (k : Int) + 1 := by omega
      rw [ei]
      clear ei
      by_cases hkl : k + 1 < m
      · obtain ⟨x, hxw, hx⟩ := nodesW_get (m := m) HN.out.symm hkl
        have HX := Lib.hid hxw
        have hxz := HPZ.out x (List.mem_of_getElem? hx)
        have hc := StrsAt.cellAt HST.out hx
        rw [Nat.zero_add] at hc
        have hc := (b6.cell (p := ⟨gp, k + 1, none⟩) (by rw [HGX.out]; exact World.block_lt_of_cell? _ _ hc)).trans hc
        clear hxw hx
        go_wp2_with fail
        refine (l2ReadNode_ct _ sig x _ (HCT.out.below hb) (by omega)).mono ?_
        rintro e w7 ⟨la, lc, rfl, accl, b7⟩
        obtain ⟨j, hj⟩ : ∃ j, j = nodeJ rdN sig x := ⟨_, rfl⟩
        rw [← hj] at accl ⊢
        have HJ := Lib.hid hj
        have accl := accl.le (b' := gx + 1) h6
        have BR := BR.below b7
        have BX := BX.below b7
        have acc := acc.below b7
        have HLK : Hid (∀ n ∈ lv, Acc w7 (gx + 1) 3 1 n.2 (intRows n.1.links)) := fun n hn => (HLK.out n hn).below b7
        have hb := bthen hb b7
        have b6 := b6.trans (b7.mono (by omega))
        have h6 := Nat.le_trans h6 b7.size
        clear b7 hj hc
        cases hnk : nodeK rdN sig x with
        | false =>
          have HF : Hid (parV sig s = noBig ∧ parB sig s = false) := par_none (by rw [← par_same]; exact parsR_no (readR_n1 (allR_none (List.mem_of_getElem? HX.out) (nodeR_no hnk))))
          have BR := BR.alloc (.cells #[.int .i64 j.ctl, .int .i64 j.par, .slice la j.links.length lc] 57)
          have hb := bthen hb (balloc w7 (.cells #[.int .i64 j.ctl, .int .i64 j.par, .slice la j.links.length lc] 57))
          clear hnk
          have q := BR.cell
          have f := BR.free
          go_wp2_with fail
          refine bodyPost_ret (v := .tuple #[.agg #[.int .i64 0, .slice none 0 0, .slice none 0 0, .int .i64 0, .slice none 0 0, .slice none 0 0], .bool false]) (by simp [results, Tryz.results6, go_sem, q]) rfl ⟨_, [], by rw [HF.out.2], by rw [HF.out.1]; exact BigIn.noBig _ _, trivial, ?_⟩
          iterate 6 refine Below.setCell ?_ (by simp) _
          exact hb
        | true =>
          have HT := Lib.hid (allR_take HR.out.1 HX.out (nodeR_yes hnk))
          rw [← HJ.out] at HT
          clear hnk
          have bn := balloc w7 (.cells #[.int .i64 j.ctl, .int .i64 j.par, .slice la j.links.length lc] 57)
          have BN : Box (w7.alloc (.cells #[.int .i64 j.ctl, .int .i64 j.par, .slice la j.links.length lc] 57)) w7.heap.size #[.int .i64 j.ctl, .int .i64 j.par, .slice la j.links.length lc] 57 := Box.new _ _ _
          have BR := BR.below bn
          have BX := BX.below bn
          have acc := acc.below bn
          have accl := accl.below bn
          have HLK : Hid (∀ n ∈ lv, Acc _ (gx + 1) 3 1 n.2 (intRows n.1.links)) := fun n hn => (HLK.out n hn).below bn
          have hb := bthen hb bn
          have b6 := b6.trans (bn.mono (by omega))
          have h6 := Nat.le_trans h6 bn.size
          have q := BX.cell
          have q0 := BN.cell
          have qq := (BX.alloc (.cells #[.int .i64 j.ctl, .int .i64 j.par, .slice la j.links.length lc] 57)).cell
          go_wp2_with (at_builtin; refine app1g _ _ rfl (.tmp 70) (.tmp 72) 24 rfl (gx + 1) 57 3 40 (.agg #[.int .i64 0, .int .i64 0, .slice none 0 0]) Tryz.underlying24 inf_nd rfl (by decide) (by decide) _ (lv.map Nd.cells) (by rfl) acc [.int .i64 j.ctl, .int .i64 j.par, .slice la j.links.length lc] _ rfl (by simp [Value.oneCell']) (by rfl) (by first | rfl | simp) (by rw [HL.out]; omega) h6 ?_)
          intro g c2 w10 acc9 hg
          try rw [HL.out] at acc9
          try rw [HL.out]
          have hb2 := grown_below hb acc hg (by omega) (by omega)
          have b62 := grown_below b6 acc hg (by omega) (by omega)
          have h62 := Nat.le_trans h6 hg.size
          have BX2 := BX.keep (grown_block acc hg (by omega) BX.lt)
          have BR2 := BR.keep (grown_block acc hg (by omega) BR.lt)
          have accl2 := accl.beside acc (by decide) hg
          have HLK2 : Hid (∀ n ∈ lv, Acc w10 (gx + 1) 3 1 n.2 (intRows n.1.links)) := fun n hn => (HLK.out n hn).beside acc (by decide) hg
          clear acc hg hb b6 h6 BX BR accl HLK q q0 qq BN bn
          have q := BX2.cell
          have f := BX2.free
          go_wp2_with fail
          go_roundw
          case rel =>
            have hkp : ∀ (u : Value) (j : Nat), gx + 1 ≤ j → (w10.setCell ⟨gx, 1, none⟩ u).heap[j]? = w10.heap[j]? := fun u j hj => heap_setCell_other _ _ _ _ (by dsimp only; omega)
            have HLN2 : (lv ++ [(j, Value.slice la j.links.length lc)]).length = lv.length + 1 := by simp
            refine ⟨k + 1, lv ++ [(j, .slice la j.links.length lc)], some ⟨g, 0, none⟩, c2, by omega, by go_num, hb2.setCell (by dsimp only; omega) _, b62.setCell (by dsimp only; omega) _, by rw [size_setCell]; exact h62, BR2.other _ (by dsimp only; omega), ?_, ?_, ?_, ?_⟩
            · rw [HLN2]; exact BX2.set 1 _
            · rw [HLN2]
              refine Acc.keep ?_ (fun j hj _ => hkp _ j hj)
              rw [List.map_append]
              exact acc9
            · intro n hn
              rcases List.mem_append.1 hn with h | h
              · exact (HLK2.out n h).keep (fun j hj _ => hkp _ j hj)
              · obtain rfl := List.mem_singleton.1 h
                exact accl2.keep (fun j hj _ => hkp _ j hj)
            · rw [List.map_append]; exact ⟨HT.out, by simp; omega⟩
          case measure => simp [intOf]; omega
      · have hkm : k + 1 = m := by omega
        have HNL : Hid (allK (nodeR rdN sig) (nodesW (partsS s)) = true ∧ allV (nodeR rdN sig) (nodesW (partsS s)) = lv.map Prod.fst) := by
          have := HR.out.1
          rw [List.take_of_length_le (by rw [nodesW_len HN.out.symm]; omega)] at this
          have := allV_some this
          exact ⟨this.2, this.1⟩
        have HRD : Hid (readR rdN sig (partsS s) = some (bigJ rdN sig (partsS s))) := readR_J HN.out.symm HK1.out.symm HNL.out.1 HEK.out.symm
        have HBJ := Lib.hid (bigJ_eq (rd := rdN) (sig := sig) HN.out.symm)
        obtain ⟨b, hb0⟩ : ∃ b, b = bigJ rdN sig (partsS s) := ⟨_, rfl⟩
        rw [← hb0] at HRD HBJ
        have HB := Lib.hid hb0
        have hbd : BigBd b := by rw [hb0]; exact bigJ_bd rdN_64 (by omega) (by rw [← HN.out]; omega) (fun x hx => by have := HPZ.out x hx; omega)
        have e0 : b.roots = r := by rw [HBJ.out, HR2.out]
        have e1 : b.nodes = lv.map Prod.fst := by rw [HBJ.out]; exact HNL.out.2
        have e2 : b.sites = allV rdN (wordsR (part ((partsS s).drop m) 0)) := by rw [HBJ.out, part_drop]; rfl
        have e3 : b.edges = ed := by rw [HBJ.out, HED.out, part_drop]; rfl
        have e4 : b.outer = wordsR (part ((partsS s).drop m) 2) := by rw [HBJ.out, part_drop]
        have e5 : b.inner = allV (wireR rdN) (wordsR (part ((partsS s).drop m) 3)) := by rw [HBJ.out, part_drop]
        have HBF : Hid (∀ W' : World, (∀ g, n0 ≤ g → g < wr.heap.size → W'.heap[g]? = wr.heap[g]?) → BigAt W' (.agg #[.int .i64 r, .slice na lv.length nc, .slice sa sn sc, .int .i64 ed, .slice oa on oc, .slice ia inn ic]) b) := fun W' hk' => by
          have hk5 : ∀ g, n0 ≤ g → g < w5.heap.size → wr.heap[g]? = w5.heap[g]? := fun g _ hg => b6.block _ (by rw [HGX.out]; exact hg)
          rw [← e0, ← e3]
          exact big_of_accs hbd e1.symm (by have := HGX.out; omega) acc HLK.out (by rw [e2]; exact HAS.out.keep hk5) (HOT.out.keep hk5) (by rw [part_drop]; have := HPI.out (m + 2) (by omega); omega) e4.symm (by rw [e5]; exact HAI.out.keep hk5) W' hk'
        have hA := HBF.out wr (fun _ _ _ => rfl)
        have q := BX.cell
        have hcs := HCT.out.below hb
        clear e0 e1 e2 e3 e4 e5 hbd hb0 acc HLK
        cases hg : goodB sig b with
        | false =>
          have HF : Hid (parV sig s = noBig ∧ parB sig s = false) := par_none (by rw [← par_same]; exact parsR_bad HRD.out (by rintro ⟨h, _⟩; rw [hg] at h; cases h))
          go_wp2_with fail
          refine (l2Good_ct _ _ sig b false _ ⟨hcs, hA⟩ hg).mono ?_
          rintro e w11 ⟨rfl, b11⟩
          have BR := BR.below b11
          have hb := bthen hb b11
          clear q hg b11
          have q := BR.cell
          have f := BR.free
          go_wp2_with fail
          refine bodyPost_ret (v := .tuple #[.agg #[.int .i64 0, .slice none 0 0, .slice none 0 0, .int .i64 0, .slice none 0 0, .slice none 0 0], .bool false]) (by simp [results, Tryz.results6, go_sem, q]) rfl ⟨_, [], by rw [HF.out.2], by rw [HF.out.1]; exact BigIn.noBig _ _, trivial, ?_⟩
          iterate 6 refine Below.setCell ?_ (by simp) _
          exact hb
        | true =>
          have hG := Lib.hid (good_of hg)
          go_wp2_with fail
          refine (l2Good_ct _ _ sig b true _ ⟨hcs, hA⟩ hg).mono ?_
          rintro e w11 ⟨rfl, b11⟩
          have BR := BR.below b11
          have BX := BX.below b11
          have hb := bthen hb b11
          have hA2 := hA.below b11
          have hcs := hcs.below b11
          have HG := Lib.hid hg
          have hz11 := b11.size
          clear q hg
          have q := BX.cell
          go_wp2_with fail
          refine (l2Text_ct _ _ sig b _ ⟨hcs, hA2⟩ hG.out).mono ?_
          rintro e w12 ⟨rfl, b12⟩
          have BR := BR.below b12
          have BX := BX.below b12
          have hb := bthen hb b12
          have hkk : Hid (∀ g, g < wr.heap.size → w12.heap[g]? = wr.heap[g]?) := fun g hg => (b12.block g (by omega)).trans (b11.block g hg)
          have hz12 := Nat.le_trans hz11 b12.size
          obtain ⟨T, hT⟩ : ∃ T, T = textL sig b := ⟨_, rfl⟩
          rw [← hT]
          have HT := Lib.hid hT
          clear q b11 b12 hT hA hA2 hcs hz11
          by_cases he : T = s
          · have hbq : (T.toList == s.toList) = true := by rw [beq_data, decide_eq_true he]
            have hbn : (T.toList != s.toList) = false := by rw [bne, hbq]; rfl
            have HS : Hid (parV sig s = b ∧ parB sig s = true) := par_some (by rw [← par_same]; exact parsR_text ⟨HSG.out, by rw [← HN.out]; omega, by rw [← HN.out]; omega⟩ HRD.out HG.out (HT.out.symm.trans he))
            have q := BX.cell
            have q2 := BR.cell
            have f2 := BR.free
            clear he
            go_wp2_with fail
            rw [HS.out.1, HS.out.2]
            refine bodyPost_ret (v := .tuple #[.agg #[.int .i64 r, .slice na lv.length nc, .slice sa sn sc, .int .i64 ed, .slice oa on oc, .slice ia inn ic], .bool true]) (by simp [results, Tryz.results6, go_sem, q2]) rfl (givesIn_mk ?_ ?_)
            · intro w' hk'
              refine HBF.out w' fun g h1 h2 => ?_
              rw [hk' g (by omega) (by simp only [size_setCell]; omega)]
              repeat rw [heap_setCell_other _ _ _ _ (by dsimp only; omega)]
              exact hkk.out g h2
            · iterate 6 refine Below.setCell ?_ (by simp) _
              exact hb
          · have hbq : (T.toList == s.toList) = false := by rw [beq_data, decide_eq_false he]
            have hbn : (T.toList != s.toList) = true := by rw [bne, hbq]; rfl
            have HF : Hid (parV sig s = noBig ∧ parB sig s = false) := par_none (by rw [← par_same]; exact parsR_bad HRD.out (by rintro ⟨_, h⟩; exact he (HT.out.trans h)))
            clear he
            have q := BR.cell
            have f := BR.free
            go_wp2_with fail
            refine bodyPost_ret (v := .tuple #[.agg #[.int .i64 0, .slice none 0 0, .slice none 0 0, .int .i64 0, .slice none 0 0, .slice none 0 0], .bool false]) (by simp [results, Tryz.results6, go_sem, q]) rfl ⟨_, [], by rw [HF.out.2], by rw [HF.out.1]; exact BigIn.noBig _ _, trivial, ?_⟩
            iterate 6 refine Below.setCell ?_ (by simp) _
            exact hb
end Go.Proofs.YthgelhglfbgagaaGreatDoor
