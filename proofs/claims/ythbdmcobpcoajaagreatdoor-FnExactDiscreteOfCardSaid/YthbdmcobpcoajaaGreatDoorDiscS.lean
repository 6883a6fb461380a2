/- A name for each point: the reference's. -/
import Derived.Test.YthbdmcobpcoajaaGreatDoorDiscP
import Derived.Test.YthbdmcobpcoajaaGreatDoorOwnS
import Derived.Test.YthbdmcobpcoajaaGreatDoorGoodS
import Derived.Test.YthbdmcobpcoajaaGreatDoorG4
namespace Go.Proofs.YthbdmcobpcoajaaGreatDoor
open Go Go.RowKit Go.BigFrame
set_option maxRecDepth 100000 in
set_option maxHeartbeats 4000000 in
theorem l3Links_ct (v : Value) (b : Big) (w : World) (h : BigAt w v b) (hD : Bds b) : Calls Tryz.prog 98 #[v] w fun e w' => ∃ u, e = .returned u ∧ IntsOwn w.heap.size w' u (linksD b) ∧ Below w.heap.size w w' := by
  obtain ⟨a1, c1, a2, c2, a3, c3, a4, c4, rfl, h1, _, _, h4, _, _⟩ := h.parts
  obtain ⟨_, _, e1, _, _, N1⟩ := h1.open
  obtain ⟨rfl, rfl⟩ := (by simpa using e1 : a1 = _ ∧ c1 = _)
  obtain ⟨_, _, e4, _, _, N4⟩ := h4.open
  obtain ⟨rfl, rfl⟩ := (by simpa using e4 : a4 = _ ∧ c4 = _)
  have N1 := Lib.hid N1
  have N4 := Lib.hid N4
  have HD := Lib.hid hD
  have hnl := hD.nodes
  have hil := hD.inner
  have HOB := Lib.hid (fun k => offN_le hD.links k)
  have HLI := Lib.hid (linksD_I64 hD)
  have HLB := Lib.hid (linksD_bd hD)
  clear e1 e4 h1 h4 h hD
  obtain ⟨W0, hW0⟩ : ∃ W, W = w.alloc (.cells #[.int .i64 b.roots, .slice a1 b.nodes.length c1, .slice a2 b.sites.length c2, .int .i64 b.edges, .slice a3 b.outer.length c3, .slice a4 b.inner.length c4] 34) := ⟨_, rfl⟩
  have BA : Box W0 w.heap.size #[.int .i64 b.roots, .slice a1 b.nodes.length c1, .slice a2 b.sites.length c2, .int .i64 b.edges, .slice a3 b.outer.length c3, .slice a4 b.inner.length c4] 34 := by rw [hW0]; exact Box.new _ _ _
  have hA : Below w.heap.size w W0 := by rw [hW0]; exact balloc _ _
  have hsz : w.heap.size + 1 ≤ W0.heap.size := BA.lt
  obtain ⟨g1, hg1⟩ : ∃ g, g = w.heap.size + 1 := ⟨_, rfl⟩
  have hw2 : W0.heap.size = g1 := by rw [hW0, hg1]; simp
  obtain ⟨W4, hW4⟩ : ∃ W, W = W0.alloc (.cells #[] 3) := ⟨_, rfl⟩
  have b4 : Below W0.heap.size W0 W4 := by rw [hW4]; exact balloc _ _
  have acc : Acc W4 (w.heap.size + 1) 3 1 (.slice (some ⟨g1, 0, none⟩) 0 0) (intRows (lnkN b 0)) := by rw [hW4, ← hw2]; simpa [intRows, lnkN] using Acc.lit0 W0 (w.heap.size + 1) 3 1 hsz
  go_enter Tryz.func98, Tryz.ntmps98
  go_wp2_with fail
  first | rw [← hW0, ← hW4, ← hg1] | fail "world"
  have BA := BA.below b4
  have hb := bthen hA b4
  have hsz := Nat.le_trans hsz b4.size
  clear hW0 hW4 hw2 hg1 b4 hA
  go_loopw [3, 4] (fun o i W => ∃ k : Nat, k ≤ b.nodes.length ∧ i = .int .i64 k ∧ Below w.heap.size w W ∧ w.heap.size + 1 ≤ W.heap.size ∧ Box W w.heap.size #[.int .i64 b.roots, .slice a1 b.nodes.length c1, .slice a2 b.sites.length c2, .int .i64 b.edges, .slice a3 b.outer.length c3, .slice a4 b.inner.length c4] 34 ∧ Acc W (w.heap.size + 1) 3 1 o (intRows (lnkN b k))) (fun _ i _ => b.nodes.length - (intOf i).toNat)
  case atStart => exact ⟨0, Nat.zero_le _, rfl, hb, hsz, BA, acc⟩
  case round =>
    clear hb hsz BA acc
    obtain ⟨k, hk, rfl, hb, hsz, BA, acc⟩ := hrel
    obtain ⟨av, cv, rfl⟩ := acc.shape
    have HL : Hid ((intRows (lnkN b k)).length = offN b.nodes k) := lnkN_len hk
    rw [HL.out] at acc ⊢
    have hob := HOB.out k
    have q := BA.cell
    by_cases hlt : k < b.nodes.length
    · obtain ⟨n, hn⟩ := getElem?_of_lt hlt
      obtain ⟨_, _, nb, no, vl, rfl, hvl, hc0, hc1, hc2⟩ := N1.out k n hn
      have hcc := (hb.cell (World.block_lt_of_cell? w _ hc2)).trans hc2
      have hr := (hvl.below hb).1
      have hl3 := HD.out.links n (List.mem_of_getElem? hn)
      have HT := Lib.hid (lnkN_succ hn)
      have HL1 : Hid ((intRows (lnkN b (k + 1))).length = offN b.nodes (k + 1)) := lnkN_len (by omega)
      clear hc0 hc1 hc2 hn hvl
      go_wp2_with (at_builtin; refine appR _ rfl (.tmp 14) (.tmp 20) 24 rfl (w.heap.size + 1) 3 1 8 1073741824 (.int .i64 0) Tryz.underlying24 inf_int rfl (by decide) (by decide) _ (intRows (lnkN b k)) (by rfl) acc _ (intRows n.links) (by rfl) hr (one_intRows _) (by rw [HL.out, len_intRows]; omega) hsz ?_)
      intro v2 w3 acc2 hg _
      rw [← HT.out] at acc2
      obtain ⟨av2, cv2, rfl⟩ := acc2.shape
      rw [HL1.out] at acc2 ⊢
      have hb3 := grown_below hb acc hg (by omega) (by omega)
      have hs3 := Nat.le_trans hsz hg.size
      have BA3 := BA.keep (grown_block acc hg (by omega) BA.lt)
      clear acc hg BA hb hsz hcc q hr
      go_wp2_with fail
      go_roundw
      case rel => exact ⟨k + 1, by omega, by go_num, hb3, hs3, BA3, acc2⟩
      case measure => simp [intOf]; omega
    · have e : k = b.nodes.length := by omega
      subst e
      rw [← lnkW_zero] at acc
      go_wp2_with fail
      clear q
      obtain ⟨w5, rfl⟩ : ∃ W, W = wr := ⟨_, rfl⟩
      go_loopw [3, 5] (fun o i W => ∃ k : Nat, k ≤ b.inner.length ∧ i = .int .i64 k ∧ Below w.heap.size w W ∧ w.heap.size + 1 ≤ W.heap.size ∧ Box W w.heap.size #[.int .i64 b.roots, .slice a1 b.nodes.length c1, .slice a2 b.sites.length c2, .int .i64 b.edges, .slice a3 b.outer.length c3, .slice a4 b.inner.length c4] 34 ∧ Acc W (w.heap.size + 1) 3 1 o (intRows (lnkW b k))) (fun _ i _ => b.inner.length - (intOf i).toNat)
      case atStart => exact ⟨0, Nat.zero_le _, rfl, hb, hsz, BA, acc⟩
      case round =>
        clear hb hsz BA acc HL
        obtain ⟨k, hk, rfl, hb, hsz, BA, acc⟩ := hrel
        obtain ⟨av, cv, rfl⟩ := acc.shape
        have HL : Hid ((intRows (lnkW b k)).length = offN b.nodes b.nodes.length + k) := lnkW_len hk
        rw [HL.out] at acc ⊢
        have q := BA.cell
        by_cases hlt : k < b.inner.length
        · obtain ⟨x, hx⟩ := getElem?_of_lt hlt
          obtain ⟨_, _, nb, no, rfl, hc0, hc1⟩ := N4.out k x hx
          have hcc := (hb.cell (World.block_lt_of_cell? w _ hc1)).trans hc1
          have HT := Lib.hid (lnkW_succ hx)
          clear hc0 hc1 hx
          go_wp2_with (at_builtin; refine app1 _ rfl (.tmp 29) (.tmp 36) 24 rfl (w.heap.size + 1) 3 1 8 (.int .i64 0) Tryz.underlying24 inf_int rfl (by decide) (by decide) _ (intRows (lnkW b k)) rfl acc [.int .i64 x.link] _ rfl (by simp [Value.oneCell']) rfl (by rw [HL.out]; omega) hsz ?_)
          intro g c2 w3 acc2 hg
          rw [HL.out, ← HT.out] at acc2
          rw [HL.out]
          have hb3 := grown_below hb acc hg (by omega) (by omega)
          have hs3 : w.heap.size + 1 ≤ w3.heap.size := Nat.le_trans hsz hg.size
          have BA3 := BA.keep (grown_block acc hg (by omega) BA.lt)
          clear acc hg BA hb hsz hcc q
          go_wp2_with fail
          go_roundw
          case rel => exact ⟨k + 1, by omega, by go_num, hb3, hs3, BA3, acc2⟩
          case measure => simp [intOf]; omega
        · have e : k = b.inner.length := by omega
          subst e
          rw [lnkW_all] at acc
          have hll := HLB.out
          go_wp2_with fail
          go_ret
          refine ⟨_, rfl, ⟨acc.own.mono (by omega), by omega, HLI.out⟩, hb⟩
set_option maxRecDepth 100000 in
set_option maxHeartbeats 8000000 in
theorem l3Discrete_ct (v v' : Value) (b : Big) (names : List ByteArray) (w : World) (h : BigAt w v b) (h' : StrsAt w v' names) (hD : Bds b) (hn16 : names.length ≤ 1000) : Calls Tryz.prog 99 #[v, v'] w fun e w' => ∃ u bs, e = .returned u ∧ BigOwn w.heap.size w' u ⟨b.roots, allN (fD b) b.nodes, b.sites, 0, names, allW (gD b) b.inner⟩ bs ∧ bs.Nodup ∧ Below w.heap.size w w' := by
  obtain ⟨a1, c1, a2, c2, a3, c3, a4, c4, rfl⟩ := h.shape
  obtain ⟨na, nc, rfl, _⟩ := id h'.open
  have HNM := Lib.hid h'
  have HNS := Lib.hid h'.2
  have HOW := Lib.hid (fun W (h : BigAt W (.agg #[.int .i64 b.roots, .slice a1 b.nodes.length c1, .slice a2 b.sites.length c2, .int .i64 b.edges, .slice a3 b.outer.length c3, .slice a4 b.inner.length c4]) b) => l2Own_ct _ b W h (by have := hD.nodes; omega) (fun n hn => by have := hD.links n hn; omega) (by have := hD.sites; omega) (by have := hD.outer; omega) (by have := hD.inner; omega) (by have := hD.edges; omega) (fun n hn => by have := hD.par n hn; have := hD.roots; omega) (fun n hn x hx => by have := hD.lnk n hn x hx; have := hD.edges; have := hD.outer; omega) (fun p hp => by have := hD.site p hp; have := hD.roots; omega) (fun x hx => by have := hD.wire x hx; have := hD.edges; have := hD.outer; omega))
  have hnl8 := hD.nodes
  have hil := hD.inner
  have HOB := Lib.hid (fun k => offN_le hD.links k)
  have HD := Lib.hid hD
  have HB0 := Lib.hid h
  obtain ⟨W0, hW0⟩ : ∃ W, W = (w.alloc (.cells #[.int .i64 b.roots, .slice a1 b.nodes.length c1, .slice a2 b.sites.length c2, .int .i64 b.edges, .slice a3 b.outer.length c3, .slice a4 b.inner.length c4] 34)).alloc (.cells #[.int .i64 0, .slice none 0 0, .slice none 0 0, .int .i64 0, .slice none 0 0, .slice none 0 0] 34) := ⟨_, rfl⟩
  have BA : Box W0 w.heap.size #[.int .i64 b.roots, .slice a1 b.nodes.length c1, .slice a2 b.sites.length c2, .int .i64 b.edges, .slice a3 b.outer.length c3, .slice a4 b.inner.length c4] 34 := by rw [hW0]; exact (Box.new _ _ _).alloc _
  have BR : Box W0 (w.heap.size + 1) #[.int .i64 0, .slice none 0 0, .slice none 0 0, .int .i64 0, .slice none 0 0, .slice none 0 0] 34 := by rw [hW0]; exact Box.new' _ _ _ (by simp)
  have hA : Below w.heap.size w W0 := by rw [hW0]; exact bthen (balloc _ _) (balloc _ _)
  have HOX := Lib.hid (HOW.out _ (HB0.out.below hA))
  clear h h' hD HOW
  go_enter Tryz.func99, Tryz.ntmps99
  go_wp2_with fail
  first | rw [← hW0] | fail "world"
  refine HOX.out.mono ?_
  rintro e w3 ⟨v', bs0, rfl, hB, hN0, hb3⟩
  obtain ⟨d1, e1, d2, e2, d3, e3, d4, e4, rfl⟩ := hB.at.shape
  have BA3 := BA.below hb3
  have BR3 := BR.below hb3
  have hb4 := bthen hA hb3
  obtain ⟨n0, hn0, hn1⟩ : ∃ n, n ≤ W0.heap.size ∧ W0.heap.size ≤ n := ⟨_, Nat.le_refl _, Nat.le_refl _⟩
  have hB3 := hB.mono hn0
  have hs3 := hb3.size
  have hs0 := BR.lt
  have hlt := hB3.lt
  clear hB hb3 BA BR hA HOX hW0
  have bw : Below w3.heap.size w3 (w3.alloc (.cells #[.int .i64 b.roots, .slice d1 b.nodes.length e1, .slice d2 b.sites.length e2, .int .i64 0, .slice d3 b.outer.length e3, .slice d4 b.inner.length e4] 34)) := balloc _ _
  have BP0 : Box (w3.alloc (.cells #[.int .i64 b.roots, .slice d1 b.nodes.length e1, .slice d2 b.sites.length e2, .int .i64 0, .slice d3 b.outer.length e3, .slice d4 b.inner.length e4] 34)) w3.heap.size #[.int .i64 b.roots, .slice d1 b.nodes.length e1, .slice d2 b.sites.length e2, .int .i64 0, .slice d3 b.outer.length e3, .slice d4 b.inner.length e4] 34 := Box.new _ _ _
  have bx := balloc (w3.alloc (.cells #[.int .i64 b.roots, .slice d1 b.nodes.length e1, .slice d2 b.sites.length e2, .int .i64 0, .slice d3 b.outer.length e3, .slice d4 b.inner.length e4] 34)) (.cells #[] 9)
  have acc0 : Acc ((w3.alloc (.cells #[.int .i64 b.roots, .slice d1 b.nodes.length e1, .slice d2 b.sites.length e2, .int .i64 0, .slice d3 b.outer.length e3, .slice d4 b.inner.length e4] 34)).alloc (.cells #[] 9)) (w3.heap.size + 1) 9 1 (.slice (some ⟨w3.heap.size + 1, 0, none⟩) 0 0) [] := by
    have := Acc.lit0 (w3.alloc (.cells #[.int .i64 b.roots, .slice d1 b.nodes.length e1, .slice d2 b.sites.length e2, .int .i64 0, .slice d3 b.outer.length e3, .slice d4 b.inner.length e4] 34)) (w3.heap.size + 1) 9 1 (by simp)
    simpa using this
  have hr0 := (HNM.out.below (bthen hb4 (bthen bw bx))).1
  go_wp2_with (at_builtin; refine appR _ rfl (.tmp 13) (.tmp 14) 25 rfl (w3.heap.size + 1) 9 1 16 1073741824 (.string ⟨#[]⟩) Tryz.underlying25 inf_str rfl (by decide) (by decide) _ [] (by rfl) acc0 _ (strRows names) (by rfl) hr0 (one_strRows _) (by rw [len_strRows]; simp; omega) (by simp) ?_)
  intro v2 w6 acc2 hg2 _
  obtain ⟨ua, uc, rfl⟩ := acc2.shape
  rw [len_strRows] at acc2 ⊢
  have b6 := grown_below (bx.mono (by simp : w3.heap.size + 1 ≤ _)) acc0 hg2 (Nat.le_refl _) (by simp)
  obtain ⟨gp, hgp⟩ : ∃ g, g = w3.heap.size := ⟨_, rfl⟩
  have hB4 := hB3.keep (keep_below bw (fun p hp => (hlt p hp).2))
  have hB5 := hB4.keep (fun p hp => b6.block p (by have := (hlt p hp).2; omega))
  have BP6 := BP0.keep (b6.block _ (by omega))
  have BA6 := (BA3.below bw).keep (b6.block _ (by omega))
  have BR6 := (BR3.below bw).keep (b6.block _ (by omega))
  have hb6 := (bthen hb4 bw).trans (b6.mono (by omega))
  have hso : StrsOwn n0 w6 (.slice ua names.length uc) names := ⟨acc2.own.mono (by omega), by omega, HNS.out⟩
  have hsl : ∀ p ∈ blks (.slice ua names.length uc), w3.heap.size + 1 ≤ p := fun p hp => (acc2.own.lt p hp).1
  obtain ⟨bs, hB6, hN, hq6⟩ := (hB5.edges (n := 0) (by unfold I64; omega)).outer hN0 hso (fun q hq h => by have := hsl q hq; have := (hlt q h).2; omega)
  have hbs : Hid (∀ q ∈ bs, n0 ≤ q ∧ q ≠ gp) := fun q hq => by
    rcases hq6 q hq with h | h
    · have := hlt q h; omega
    · have := hsl q h; omega
  have BP7 : Box (w6.setCell ⟨gp, 4, none⟩ (.slice ua names.length uc)) gp #[.int .i64 b.roots, .slice d1 b.nodes.length e1, .slice d2 b.sites.length e2, .int .i64 0, .slice ua names.length uc, .slice d4 b.inner.length e4] 34 := by rw [← hgp] at BP6; exact BP6.set 4 _
  have hB7 := hB6.keep (keep_setCell (p := ⟨gp, 4, none⟩) (u := .slice ua names.length uc) (fun h => (hbs.out _ h).2 rfl))
  have hB8 : BigOwn n0 (w6.setCell ⟨gp, 4, none⟩ (.slice ua names.length uc)) (.agg #[.int .i64 b.roots, .slice d1 b.nodes.length e1, .slice d2 b.sites.length e2, .int .i64 0, .slice ua names.length uc, .slice d4 b.inner.length e4]) ⟨b.roots, progN (fD b) b.nodes 0 0, b.sites, 0, names, b.inner⟩ bs := by rw [progN_zero]; exact hB7
  have HB8 := Lib.hid hB8
  have BP7' := Lib.hid BP7
  have hgl : n0 ≤ gp := by omega
  rw [← hgp] at BP6
  have q := BP6.cell
  have f := BP6.free
  rw [← hgp]
  clear hB3 hB4 hB5 hB6 hB7 hB8 hso hsl hq6 acc0 acc2 hg2 bx bw hr0 b6 BP0 BA3 BR3 hlt hs3 hgp BP7 hN0
  go_wp2_with fail
  clear q f
  obtain ⟨W7, hW7⟩ : ∃ W, W = w6.setCell ⟨gp, 4, none⟩ (.slice ua names.length uc) := ⟨_, rfl⟩
  have oo : Only [gp] w6 W7 := by rw [hW7]; exact (Only.refl _ _).setCell (by simp) _
  have BP := BP7'.out
  have hB := HB8.out
  first | rw [← hW7] at BP hB ⊢ | fail "world7"
  clear HB8 BP7' hW7
  have BA := BA6.keep (oo.block _ BA6.lt (fun h => by have := List.mem_singleton.1 h; omega))
  have BR := BR6.keep (oo.block _ BR6.lt (fun h => by have := List.mem_singleton.1 h; omega))
  have hb := hb6.trans (oo.below (B := w.heap.size) (fun p hp => by have := List.mem_singleton.1 hp; omega) (by have := hb6.size; omega))
  clear oo BA6 BR6 hb6 BP6
  go_loopw [6, 7] (fun t i W => ∃ k : Nat, k ≤ b.nodes.length ∧ i = .int .i64 k ∧ t = .int .i64 (offN b.nodes k) ∧ Only bs W7 W ∧ BigOwn n0 W (.agg #[.int .i64 b.roots, .slice d1 b.nodes.length e1, .slice d2 b.sites.length e2, .int .i64 0, .slice ua names.length uc, .slice d4 b.inner.length e4]) ⟨b.roots, progN (fD b) b.nodes k 0, b.sites, 0, names, b.inner⟩ bs) (fun _ i _ => b.nodes.length - (intOf i).toNat)
  case atStart => exact ⟨0, Nat.zero_le _, rfl, rfl, Only.refl _ _, hB⟩
  case round =>
    clear hB
    obtain ⟨k, hk, rfl, rfl, oW, hB⟩ := hrel
    have hob := HOB.out k
    by_cases hkl : k < b.nodes.length
    · obtain ⟨x, hx⟩ := getElem?_of_lt hkl
      obtain ⟨g, vl, rfl, _⟩ := hB.nodeAt (progN_get0 (f := fD b) hx)
      have BP0 := BP.keep (oW.block _ BP.lt (fun h => (hbs.out _ h).2 rfl))
      have q := BP0.cell
      have HXM : Hid (x ∈ b.nodes) := List.mem_of_getElem? hx
      have hxl := HD.out.links x HXM.out
      have HX := Lib.hid hx
      clear hx
      go_wp2_with fail
      clear q BP0
      obtain ⟨wa, rfl⟩ : ∃ W, W = wr := ⟨_, rfl⟩
      go_loopw [6, 8] (fun t i W => ∃ j : Nat, j ≤ x.links.length ∧ i = .int .i64 j ∧ t = .int .i64 ((offN b.nodes k + j : Nat) : Int) ∧ Only bs W7 W ∧ BigOwn n0 W (.agg #[.int .i64 b.roots, .slice (some ⟨g, 0, none⟩) b.nodes.length e1, .slice d2 b.sites.length e2, .int .i64 0, .slice ua names.length uc, .slice d4 b.inner.length e4]) ⟨b.roots, progN (fD b) b.nodes k j, b.sites, 0, names, b.inner⟩ bs) (fun _ i _ => x.links.length - (intOf i).toNat)
      case atStart => exact ⟨0, Nat.zero_le _, rfl, rfl, oW, hB⟩
      case round =>
        clear hB oW
        obtain ⟨j, hj, rfl, rfl, oI, hB⟩ := hrel
        have BPw := BP.keep (oI.block _ BP.lt (fun h => (hbs.out _ h).2 rfl))
        obtain ⟨g', vl, e', hgb, hfn, hxc, hxp, hvl, hc0, hc1, hc2'⟩ := hB.nodeAt (progN_get (f := fD b) HX.out)
        obtain rfl : g = g' := by simpa using e'
        obtain ⟨ya, yc, rfl, _, _, H6⟩ := hvl.open
        have hc2 : wr.cell? ⟨g, k * 3 + 2, none⟩ = some (.slice ya x.links.length yc) := by rw [← progI_len (fD b k) x.links j]; exact hc2'
        have q := BPw.cell
        clear hc2' hvl e'
        by_cases hjl : j < x.links.length
        · obtain ⟨yl, hy⟩ := getElem?_of_lt hjl
          obtain ⟨hyI, gl, ol, rfl, hcy⟩ := H6 j yl (progI_get (f := fD b k) hy)
          obtain ⟨⟨rfl, hmm, hglb, hglg⟩, hcy', hfz, hzz⟩ := hB.lnk hN (progN_get (f := fD b) HX.out) hc2 (progI_get (f := fD b k) hy)
          have hst := hzz (fD b k j yl) (by unfold fD I64; omega)
          rw [← progN_set HX.out hy] at hst
          have HST := Lib.hid hst
          have HFV : Hid (fD b k j yl = (offN b.nodes k : Int) + (j : Int)) := by show _ = _; unfold fD; omega
          have hcy := hcy'
          clear hy hmm hzz H6 hcy' hst hB hc0 hc1 hyI
          go_wp2_with fail
          go_roundw
          case rel => exact ⟨j + 1, by omega, by go_num, by congr 1, oI.setCell hglb _, by rw [← HFV.out]; exact HST.out⟩
          case measure => simp [intOf]; omega
        · have e : j = x.links.length := by omega
          subst e
          rw [progN_next HX.out] at hB
          have HOS : Hid (((offN b.nodes k + x.links.length : Nat) : Int) = (offN b.nodes (k + 1) : Int)) := by show _ = _; rw [offN_succ HX.out]
          clear H6
          go_wp2_with fail
          go_roundw
          case rel => exact ⟨k + 1, by omega, by go_num, by rw [← HOS.out], oI, hB⟩
          case measure => simp [intOf]; omega
    · have e : k = b.nodes.length := by omega
      subst e
      rw [progN_full] at hB
      have BP0 := BP.keep (oW.block _ BP.lt (fun h => (hbs.out _ h).2 rfl))
      have q := BP0.cell
      go_wp2_with fail
      clear q BP0
      obtain ⟨NS, hNS⟩ : ∃ l, l = allN (fD b) b.nodes := ⟨_, rfl⟩
      rw [← hNS] at hB
      have HNS2 := Lib.hid hNS
      obtain ⟨wa, rfl⟩ : ∃ W, W = wr := ⟨_, rfl⟩
      have hB0 : BigOwn n0 wa (.agg #[.int .i64 b.roots, .slice d1 b.nodes.length e1, .slice d2 b.sites.length e2, .int .i64 0, .slice ua names.length uc, .slice d4 b.inner.length e4]) ⟨b.roots, NS, b.sites, 0, names, progW (gD b) b.inner 0⟩ bs := by rw [progW_zero]; exact hB
      clear hB hNS
      go_loopw [6, 9] (fun t i W => ∃ j : Nat, j ≤ b.inner.length ∧ i = .int .i64 j ∧ t = .int .i64 ((offN b.nodes b.nodes.length + j : Nat) : Int) ∧ Only bs W7 W ∧ BigOwn n0 W (.agg #[.int .i64 b.roots, .slice d1 b.nodes.length e1, .slice d2 b.sites.length e2, .int .i64 0, .slice ua names.length uc, .slice d4 b.inner.length e4]) ⟨b.roots, NS, b.sites, 0, names, progW (gD b) b.inner j⟩ bs) (fun _ i _ => b.inner.length - (intOf i).toNat)
      case atStart => exact ⟨0, Nat.zero_le _, rfl, rfl, oW, hB0⟩
      case round =>
        clear hB0 oW
        obtain ⟨j, hj, rfl, rfl, oI, hB⟩ := hrel
        have BPw := BP.keep (oI.block _ BP.lt (fun h => (hbs.out _ h).2 rfl))
        have q := BPw.cell
        by_cases hjl : j < b.inner.length
        · obtain ⟨x, hx⟩ := getElem?_of_lt hjl
          obtain ⟨g, rfl, hgb, hc0, hc1, hfz, hzz⟩ := hB.wire hN (progW_get (f := gD b) hx)
          have hst := hzz (gD b j x.link) (by unfold gD I64; omega)
          have HFV : Hid (gD b j x.link = (offN b.nodes b.nodes.length : Int) + (j : Int)) := by show _ = _; unfold gD; omega
          have hst2 := hst
          have HX := Lib.hid hx
          have HST := Lib.hid hst
          clear hzz hst hst2 hB hx
          go_wp2_with fail
          go_roundw
          case rel => exact ⟨j + 1, by omega, by go_num, by congr 1, oI.setCell hgb _, by rw [← HFV.out, progW_set HX.out]; exact HST.out⟩
          case measure => simp [intOf]; omega
        · have e : j = b.inner.length := by omega
          subst e
          rw [progW_full, HNS2.out] at hB
          have BRw := BR.keep (oI.block _ BR.lt (fun h => by have := (hbs.out _ h).1; omega))
          have hbw : Below w.heap.size w wr := hb.trans (oI.below (B := w.heap.size) (fun p hp => by have := (hbs.out p hp).1; omega) (by have := hb.size; omega))
          have q2 := BRw.cell
          have f2 := BRw.free
          go_wp2_with fail
          refine bodyPost_ret (v := .agg #[.int .i64 b.roots, .slice d1 b.nodes.length e1, .slice d2 b.sites.length e2, .int .i64 0, .slice ua names.length uc, .slice d4 b.inner.length e4]) (by simp [results, Tryz.results99, go_sem, q2]) rfl ⟨_, bs, rfl, (fill6 hB (by omega) _ _ _ _ _ _).mono (by omega), hN, fill6b hbw (by omega) _ _ _ _ _ _⟩
theorem noBig2 {w w' : World} (h : Below w.heap.size w w') : GivesBig2 noBig noBig false w (.returned (.tuple #[.agg #[.int .i64 0, .slice none 0 0, .slice none 0 0, .int .i64 0, .slice none 0 0, .slice none 0 0], .agg #[.int .i64 0, .slice none 0 0, .slice none 0 0, .int .i64 0, .slice none 0 0, .slice none 0 0], .bool false])) w' :=
  ⟨_, _, _, _, rfl, noBig_own _ _, by simp, noBig_own _ _, by simp, by simp, h⟩
def litCells : Array Value := (lit16.map Value.string).toArray
theorem litCells_get {i : Nat} {x : ByteArray} (h : lit16[i]? = some x) : litCells[i]? = some (.string x) := by
  unfold litCells
  rw [List.getElem?_toArray, List.getElem?_map, h]; rfl
theorem lit_at {W : World} {g n : Nat} (B : Box W g litCells 9) (hn : n ≤ 16) : StrsAt W (.slice (some ⟨g, 0, none⟩) n 16) (pts n) := by
  refine ⟨⟨some ⟨g, 0, none⟩, 16, by rw [List.length_map, pts_len], by rw [List.length_map, pts_len]; exact hn, by rw [List.length_map, pts_len]; omega, fun r hr => ?_, fun i r hi => ⟨g, 0, rfl, fun j u hj => ?_⟩⟩, pts_size (by omega)⟩
  · obtain ⟨x, _, rfl⟩ := List.mem_map.1 hr; rfl
  · rw [List.getElem?_map] at hi
    cases hx : (pts n)[i]? with
    | none => rw [hx] at hi; cases hi
    | some x =>
      rw [hx] at hi
      simp only [Option.map_some, Option.some.injEq] at hi
      subst hi
      have hin : i < n := by have := (List.getElem?_eq_some_iff.1 hx).1; rwa [pts_len] at this
      rw [← pts_take hn, ← lit16_pts, List.getElem?_take, if_pos hin] at hx
      cases j with
      | zero =>
        simp only [List.getElem?_cons_zero, Option.some.injEq] at hj
        subst hj
        have := B.cell i
        rw [litCells_get hx] at this
        simpa using this
      | succ j => simp at hj
theorem lit_cell {W : World} {g k : Nat} (B : Box W g litCells 9) (hk : k < 16) : W.cell? ⟨g, k, none⟩ = some (.string (ptN k)) := by
  rw [B.cell k]
  refine litCells_get ?_
  rw [lit16_pts]
  unfold pts
  rw [List.getElem?_map, List.getElem?_range hk]; rfl
set_option maxRecDepth 100000 in
set_option maxHeartbeats 8000000 in
theorem specDiscreteOf_ct (vs v : Value) (sig : List Ctl) (b : Big) (w : World) (h : Ctx w vs v sig b) : Calls Tryz.prog 30 #[vs, v] w (GivesBig2 (dscW sig b) (dscO sig b) (dscC sig b) w) := by
  obtain ⟨a1, c1, a2, c2, a3, c3, a4, c4, rfl⟩ := h.big.shape
  obtain ⟨W0, hW0⟩ : ∃ W, W = ((w.alloc (.cells #[.int .i64 b.roots, .slice a1 b.nodes.length c1, .slice a2 b.sites.length c2, .int .i64 b.edges, .slice a3 b.outer.length c3, .slice a4 b.inner.length c4] 34)).alloc (.cells #[.int .i64 0, .slice none 0 0, .slice none 0 0, .int .i64 0, .slice none 0 0, .slice none 0 0] 34)).alloc (.cells #[.int .i64 0, .slice none 0 0, .slice none 0 0, .int .i64 0, .slice none 0 0, .slice none 0 0] 34) := ⟨_, rfl⟩
  have hA : Below w.heap.size w W0 := by rw [hW0]; exact bthen (bthen (balloc _ _) (balloc _ _)) (balloc _ _)
  have BA : Box W0 w.heap.size #[.int .i64 b.roots, .slice a1 b.nodes.length c1, .slice a2 b.sites.length c2, .int .i64 b.edges, .slice a3 b.outer.length c3, .slice a4 b.inner.length c4] 34 := by rw [hW0]; exact ((Box.new _ _ _).alloc _).alloc _
  have BR : Box W0 (w.heap.size + 1) #[.int .i64 0, .slice none 0 0, .slice none 0 0, .int .i64 0, .slice none 0 0, .slice none 0 0] 34 := by rw [hW0]; exact (Box.new' _ _ _ (by simp)).alloc _
  have BS : Box W0 (w.heap.size + 2) #[.int .i64 0, .slice none 0 0, .slice none 0 0, .int .i64 0, .slice none 0 0, .slice none 0 0] 34 := by rw [hW0]; exact Box.new' _ _ _ (by simp)
  cases hg : goodB sig b with
  | false =>
    have hC : dscC sig b = false := by unfold dscC; rw [hg]; rfl
    rw [dscW_no hC, dscO_no hC, hC]
    clear hC
    go_enter Tryz.func30, Tryz.ntmps30
    go_wp2_with fail
    rw [← hW0]
    clear hW0
    refine (l2Good_ct _ _ sig b false _ (h.below hA) hg).mono ?_
    rintro e w2 ⟨rfl, hb⟩
    have BA := BA.below hb
    have BR := BR.below hb
    have BS := BS.below hb
    have hb := bthen hA hb
    clear hg h hA
    have q := BR.cell
    have f := BR.free
    have q2 := BS.cell
    have f2 := BS.free
    go_wp2_with fail
    refine bodyPost_ret (v := .tuple #[.agg #[.int .i64 0, .slice none 0 0, .slice none 0 0, .int .i64 0, .slice none 0 0, .slice none 0 0], .agg #[.int .i64 0, .slice none 0 0, .slice none 0 0, .int .i64 0, .slice none 0 0, .slice none 0 0], .bool false]) (by simp [results, Tryz.results30, go_sem, q, q2]) rfl (noBig2 ?_)
    iterate 12 refine Below.setCell ?_ (by dsimp only; omega) _
    exact hb
  | true =>
    have hG := good_of hg
    have hD := hG.bds
    have HD := Lib.hid hD
    have HBIG := Lib.hid h.big
    by_cases hlt : (linksD b).length ≤ 16
    case neg =>
      have hC : dscC sig b = false := by unfold dscC; rw [hg, decide_eq_false hlt]; rfl
      rw [dscW_no hC, dscO_no hC, hC]
      have hlg : (16 : Int) < ((linksD b).length : Int) := by omega
      clear hC hlt
      go_enter Tryz.func30, Tryz.ntmps30
      go_wp2_with fail
      rw [← hW0]
      clear hW0
      refine (l2Good_ct _ _ sig b true _ (h.below hA) hg).mono ?_
      rintro e w2 ⟨rfl, hb⟩
      have BA := BA.below hb
      have BR := BR.below hb
      have BS := BS.below hb
      have hb := bthen hA hb
      clear hg h hA
      have q := BA.cell
      go_wp2_with fail
      clear q
      refine (l3Links_ct _ b _ (HBIG.out.below hb) HD.out).mono ?_
      rintro e w3 ⟨u3, rfl, hu3, b3⟩
      obtain ⟨la0, lc0, rfl⟩ := hu3.shp
      have BA := BA.below b3
      have BR := BR.below b3
      have BS := BS.below b3
      have hb := bthen hb b3
      clear hu3 b3
      have q := BR.cell
      have f := BR.free
      have q2 := BS.cell
      have f2 := BS.free
      go_wp2_with fail
      refine bodyPost_ret (v := .tuple #[.agg #[.int .i64 0, .slice none 0 0, .slice none 0 0, .int .i64 0, .slice none 0 0, .slice none 0 0], .agg #[.int .i64 0, .slice none 0 0, .slice none 0 0, .int .i64 0, .slice none 0 0, .slice none 0 0], .bool false]) (by simp [results, Tryz.results30, go_sem, q, q2]) rfl (noBig2 ?_)
      iterate 12 refine Below.setCell ?_ (by dsimp only; omega) _
      exact hb
    have hC : dscC sig b = true := by unfold dscC; rw [hg, decide_eq_true hlt]; rfl
    rw [dscW_yes hC, dscO_yes hC, hC]
    have hlg : ¬ (16 : Int) < ((linksD b).length : Int) := by omega
    clear hC
    go_enter Tryz.func30, Tryz.ntmps30
    go_wp2_with fail
    rw [← hW0]
    clear hW0
    refine (l2Good_ct _ _ sig b true _ (h.below hA) hg).mono ?_
    rintro e w2 ⟨rfl, hb⟩
    have BA := BA.below hb
    have BR := BR.below hb
    have BS := BS.below hb
    have hb := bthen hA hb
    clear hg h hA
    have q := BA.cell
    go_wp2_with fail
    clear q
    refine (l3Links_ct _ b _ (HBIG.out.below hb) HD.out).mono ?_
    rintro e w3 ⟨u3, rfl, hu3, b3⟩
    obtain ⟨la0, lc0, rfl⟩ := hu3.shp
    have BA := BA.below b3
    have BR := BR.below b3
    have BS := BS.below b3
    have hb := bthen hb b3
    clear hu3 b3
    have q := BA.cell
    go_wp2_with fail
    clear q
    refine (l3Links_ct _ b _ (HBIG.out.below hb) HD.out).mono ?_
    rintro e w4 ⟨u4, rfl, hu4, b4⟩
    obtain ⟨la, lc, rfl⟩ := hu4.shp
    go_wp2_with fail
    obtain ⟨W5, hW5⟩ : ∃ W, W = w4.alloc (.cells #[.string ⟨#[112, 97]⟩, .string ⟨#[112, 98]⟩, .string ⟨#[112, 99]⟩, .string ⟨#[112, 100]⟩, .string ⟨#[112, 101]⟩, .string ⟨#[112, 102]⟩, .string ⟨#[112, 103]⟩, .string ⟨#[112, 104]⟩, .string ⟨#[112, 105]⟩, .string ⟨#[112, 106]⟩, .string ⟨#[112, 107]⟩, .string ⟨#[112, 108]⟩, .string ⟨#[112, 109]⟩, .string ⟨#[112, 110]⟩, .string ⟨#[112, 111]⟩, .string ⟨#[112, 112]⟩] 9) := ⟨_, rfl⟩
    first | rw [← hW5] | fail "world5"
    have b5 : Below w4.heap.size w4 W5 := by rw [hW5]; exact balloc _ _
    obtain ⟨gN, hgN⟩ : ∃ g, g = w4.heap.size := ⟨_, rfl⟩
    have BN : Box W5 gN litCells 9 := by rw [hW5, hgN]; exact Box.new _ _ _
    have hs3 : w.heap.size + 3 ≤ w3.heap.size := BS.lt
    have HGN : Hid (gN < W5.heap.size) := BN.lt
    have HLL : Hid (∀ p ∈ blks (.slice la (linksD b).length lc), p < W5.heap.size) := fun p hp => Nat.lt_of_lt_of_le (hu4.lt p hp).2 b5.size
    have hlk : IntsOwn (w.heap.size + 3) W5 (.slice la (linksD b).length lc) (linksD b) := ⟨(hu4.keep (keep_below b5 (fun p hp => (hu4.lt p hp).2))).1.mono hs3, hu4.2⟩
    have hgw : w.heap.size + 3 ≤ gN := by rw [hgN]; exact Nat.le_trans hs3 b4.size
    have BA := (BA.below b4).below b5
    have BR := (BR.below b4).below b5
    have BS := (BS.below b4).below b5
    have hb := bthen (bthen hb b4) b5
    obtain ⟨_, _, _, _, _, _, _, _, e0, _, _, h3, _, _, _⟩ := HBIG.out.parts
    simp only [Value.agg.injEq, Array.mk.injEq, List.cons.injEq, and_true, true_and, Value.slice.injEq] at e0
    obtain ⟨⟨rfl, rfl⟩, ⟨rfl, rfl⟩, ⟨rfl, rfl⟩, rfl, rfl⟩ := e0
    have hol := hD.outer
    have H3 := Lib.hid h3
    rw [← hgN]
    clear hW5 hgN hu4 b4 b5 h3 hs3 hG hD
    have gA3 := fun y => gr_cell (w := W5) (BA.cell 3) y
    have gA4 := fun y => gr_cell (w := W5) (BA.cell 4) y
    refine rg_region [0, 1, 2, 3, 4, 5, 6, 7] [8] (lo := (.cons _ .nil)) (by rfl) (tAt 2 (eLit0) (tAt 5 (eRow W5.heap.size 1 b.outer.length (strRows b.outer) (len_strRows _)) (tAt 7 (ePtr W5.heap.size #[.int .i64 0, .slice none 0 0, .slice none 0 0, .int .i64 0, .slice none 0 0, .slice none 0 0] 34) tNil))) (by kernel_rfl) (by rfl) (by kernel_rfl) ?_
    refine rg_quiet anti_end [0, 1] [2, 3, 4, 5, 6, 7] (lo := (.cons _ (.cons _ .nil))) (by rfl) (by kernel_rfl) ?_
    repeat (go_big_quiet_step (fail))
    refine wpQuiet_nil ?_
    refine rg_made 2 rfl rfl ?_ ?_
    · rintro w' ⟨y, rfl⟩ hd
      exact ⟨_, _, by simp [go_sem]; exact ⟨rfl, rfl⟩, balloc _ _, _, rfl⟩
    intro v hv
    obtain ⟨g1, rfl⟩ : ∃ g, v = .slice (some ⟨g, 0, none⟩) 0 0 := hv
    simp only [Act.put, List.setIfInBounds_toArray, List.set_cons_zero, List.set_cons_succ]
    refine rg_quiet anti_end [3, 4] [5, 6, 7] (lo := (.cons _ (.cons _ .nil))) (by rfl) (by kernel_rfl) ?_
    repeat (go_big_quiet_step (fail))
    refine wpQuiet_nil ?_
    refine rg_made 5 rfl rfl ?_ ?_
    · rintro w' ⟨y, rfl⟩ hd
      exact rg_app0 (.tmp 31) (.tmp 33) 25 (by rfl) 9 1 16 1073741824 W5.heap.size (.string ⟨#[]⟩) Tryz.underlying25 inf_str rfl (by decide) (by decide) _ _ (strRows b.outer) (by rfl) (by rfl) (one_strRows _) (by rw [len_strRows]; omega) _ (H3.out.below (bthen hb (gr_below _ _))).1 (gr_below _ _).size
    intro v hv
    obtain ⟨ka, kc, rfl⟩ : ∃ a c, v = .slice a b.outer.length c := hv
    simp only [Act.put, List.setIfInBounds_toArray, List.set_cons_zero, List.set_cons_succ]
    refine rg_quiet anti_end [6] [7] (lo := (.cons _ .nil)) (by rfl) (by kernel_rfl) ?_
    repeat (go_big_quiet_step (fail))
    refine wpQuiet_nil ?_
    refine rg_made 7 rfl rfl ?_ ?_
    · rintro w' ⟨y, rfl⟩ hd
      exact ⟨_, _, by simp [go_sem]; try exact ⟨rfl, rfl⟩, balloc _ _, _, rfl, Box.new _ _ _, (gr_below _ _).size, Nat.le_refl _, by simp⟩
    intro v hv
    obtain ⟨gp0, rfl⟩ : ∃ g, v = .pointer (some ⟨g, 0, none⟩) := hv
    simp only [Act.put, List.setIfInBounds_toArray, List.set_cons_zero, List.set_cons_succ]
    intro w6 U hb6 hF
    obtain ⟨V1, V2, hd1, hs1, hF, gp, e0, BP0, hpl, hpU⟩ := hF
    obtain rfl : gp0 = gp := by simpa using e0
    obtain ⟨V3, V4, hd3, hs3, hF, hu1⟩ := hF
    obtain ⟨hso0, hsU⟩ : gRow W5.heap.size 1 (strRows b.outer) (.slice ka b.outer.length kc) w6 V4 := hu1
    have hsp : ∀ p ∈ blks (.slice ka b.outer.length kc), p ≠ gp0 := fun p hp e => hd1 p ((hs3 p).2 (.inr (hsU p hp))) (e ▸ hpU)
    clear hF hd1 hs1 hd3 hs3 e0 gA3 gA4 hpU hsU
    have hlk := hlk.keep (keep_below hb6 (fun p hp => (hlk.lt p hp).2))
    have BN := BN.below hb6
    have hgNl : gN < gp0 := Nat.lt_of_lt_of_le HGN.out hpl
    have HSP : Hid (∀ p ∈ blks (.slice ka b.outer.length kc), W5.heap.size ≤ p ∧ p < w6.heap.size ∧ p ≠ gp0) := fun p hp => ⟨(hso0.lt p hp).1, (hso0.lt p hp).2, hsp p hp⟩
    have HLL : Hid (∀ p ∈ blks (.slice la (linksD b).length lc), p < gp0) := fun p hp => Nat.lt_of_lt_of_le (HLL.out p hp) hpl
    have HW5 : Hid (w.heap.size + 3 ≤ W5.heap.size) := BS.lt
    have BA := BA.below hb6
    have BR := BR.below hb6
    have BS := BS.below hb6
    have hb := bthen hb hb6
    have hgw3 : w.heap.size + 3 ≤ gp0 := Nat.le_trans HW5.out hpl
    have hgl6 := BP0.lt
    have q := BP0.cell
    have f := BP0.free
    clear hsp
    go_wp2_with fail
    clear q f
    obtain ⟨W7, hW7, BC, oY⟩ := box_fill BP0 (.int .i64 0) (.slice none 0 0) (.slice none 0 0) (.int .i64 b.edges) (.slice ka b.outer.length kc) (.slice none 0 0)
    first | rw [← hW7] | fail "world7"
    have BA := BA.keep (oY.block _ BA.lt (fun h => by have := List.mem_singleton.1 h; omega))
    have BR := BR.keep (oY.block _ BR.lt (fun h => by have := List.mem_singleton.1 h; omega))
    have BS := BS.keep (oY.block _ BS.lt (fun h => by have := List.mem_singleton.1 h; omega))
    have BN := BN.keep (oY.block _ BN.lt (fun h => by have := List.mem_singleton.1 h; omega))
    have hso := hso0.keep (fun p hp => oY.block p (hso0.lt p hp).2 (fun h => (HSP.out p hp).2.2 (List.mem_singleton.1 h)))
    have hlk := hlk.keep (fun p hp => oY.block p (hlk.lt p hp).2 (fun h => by have := List.mem_singleton.1 h; have := HLL.out p hp; omega))
    have hb := hb.trans (oY.below (B := w.heap.size) (fun p hp => by have := List.mem_singleton.1 hp; omega) (by have := hb.size; omega))
    obtain ⟨n6, hn6, hn6'⟩ : ∃ n, n ≤ w6.heap.size ∧ w6.heap.size ≤ n := ⟨_, Nat.le_refl _, Nat.le_refl _⟩
    have hs : n6 ≤ W7.heap.size := Nat.le_trans hn6 oY.size
    clear hW7 oY BP0 hso0
    go_loopw [10] (fun i W => ∃ k : Nat, k ≤ (linksD b).length ∧ i = .int .i64 k ∧ Below w.heap.size w W ∧ n6 ≤ W.heap.size ∧ Box W w.heap.size #[.int .i64 b.roots, .slice a1 b.nodes.length c1, .slice a2 b.sites.length c2, .int .i64 b.edges, .slice a3 b.outer.length c3, .slice a4 b.inner.length c4] 34 ∧ Box W (w.heap.size + 1) #[.int .i64 0, .slice none 0 0, .slice none 0 0, .int .i64 0, .slice none 0 0, .slice none 0 0] 34 ∧ Box W (w.heap.size + 2) #[.int .i64 0, .slice none 0 0, .slice none 0 0, .int .i64 0, .slice none 0 0, .slice none 0 0] 34 ∧ RowOwn W5.heap.size W (.slice ka b.outer.length kc) 1 (strRows b.outer) ∧ IntsOwn (w.heap.size + 3) W (.slice la (linksD b).length lc) (linksD b) ∧ Box W gN litCells 9 ∧ ∃ vs, Box W gp0 #[.int .i64 0, .slice none 0 0, .slice none 0 0, .int .i64 b.edges, .slice ka b.outer.length kc, vs] 34 ∧ Acc W n6 84 2 vs (wdR (linksD b) k)) (fun i _ => (linksD b).length - (intOf i).toNat)
    case atStart => exact ⟨0, Nat.zero_le _, rfl, hb, hs, BA, BR, BS, hso, hlk, BN, _, BC, by rw [wdR_zero]; exact Acc.nil _ _ _ _⟩
    case round =>
      clear hb hs BA BR BS hso hlk BN BC
      obtain ⟨k, hk, rfl, hb, hs, BA, BR, BS, hso, hlk, BN, vs, BC, acc⟩ := hrel
      obtain ⟨av, cv, rfl⟩ := acc.shape
      have HL : Hid ((wdR (linksD b) k).length = k) := wdR_len hk
      rw [HL.out] at BC acc
      by_cases hkl : k < (linksD b).length
      · obtain ⟨y, hy⟩ := getElem?_of_lt hkl
        have HT := Lib.hid (wdR_succ hy)
        have hcn := lit_cell BN (by omega : k < 16)
        obtain ⟨gl0, rfl, _, hcl, _, _⟩ := hlk.slot hy
        have q := BC.cell
        clear hy
        go_wp2_with fail
        clear q
        have g1 := fun z => gr_cell (w := wr) hcn z
        have g2 := fun z => gr_cell (w := wr) hcl z
        have gC := fun z => gr_cell (w := wr) (BC.cell 5) z
        refine rg_region [0, 1, 2, 3, 4, 5, 6, 7, 8, 9, 10, 11] [12, 13, 14] (lo := (.cons _ (.cons _ (.cons _ .nil)))) (by rfl) (tAt 11 (eLit1 [.string (ptN k), .int .i64 y] 84) tNil) (by kernel_rfl) (by rfl) (by kernel_rfl) ?_
        refine rg_quiet anti_end [0, 1, 2, 3, 4, 5, 6, 7, 8, 9, 10] [11] (lo := (.cons _ (.cons _ (.cons _ (.cons _ (.cons _ (.cons _ (.cons _ (.cons _ (.cons _ (.cons _ (.cons _ .nil)))))))))))) (by rfl) (by kernel_rfl) ?_
        repeat (go_big_quiet_step (fail))
        refine wpQuiet_nil ?_
        refine rg_made 11 rfl rfl ?_ ?_
        · rintro w' ⟨y, rfl⟩ hd
          exact ⟨_, _, by simp [go_sem]; try exact ⟨rfl, rfl⟩, balloc _ _, _, rfl, Box.new _ _ _, Nat.le_refl _, by simp⟩
        intro v hv
        obtain ⟨gl, rfl⟩ : ∃ g, v = .slice (some ⟨g, 0, none⟩) 1 1 := hv
        simp only [Act.put, List.setIfInBounds_toArray, List.set_cons_zero, List.set_cons_succ]
        intro w8 U8 hb3 hF
        obtain ⟨_, _, _, _, _, hF⟩ := hF
        obtain ⟨gl', e0, BL, _⟩ : ∃ g, Value.slice (some ⟨gl, 0, none⟩) 1 1 = .slice (some ⟨g, 0, none⟩) 1 1 ∧ Box w8 g #[.string (ptN k), .int .i64 y] 84 ∧ _ := hF
        obtain rfl : gl = gl' := by simpa using e0
        clear e0 g1 g2 gC hcn hcl
        have BA := BA.below hb3
        have BR := BR.below hb3
        have BS := BS.below hb3
        have BC := BC.below hb3
        have BN := BN.below hb3
        have acc := acc.below hb3
        have hso := hso.keep (keep_below hb3 (fun p hp => (hso.lt p hp).2))
        have hlk := hlk.keep (keep_below hb3 (fun p hp => (hlk.lt p hp).2))
        have hb := bthen hb hb3
        have hs := Nat.le_trans hs hb3.size
        go_wp2_with (at_builtin; refine appR _ rfl (.tmp 43) (.tmp 53) 32 rfl n6 84 2 24 1 (.agg #[.string ⟨#[]⟩, .int .i64 0]) Tryz.underlying32 inf_wr rfl (by decide) (by decide) _ (wdR (linksD b) k) (by rfl) acc _ [[.string (ptN k), .int .i64 y]] (by rfl) (rowAt_one (row := [.string (ptN k), .int .i64 y]) BL (by decide)) (by simp [Value.oneCell']) (by rw [HL.out]; simp; omega) hs ?_)
        intro v2 w9 acc2 hg _
        rw [← HT.out] at acc2
        obtain ⟨av2, cv2, rfl⟩ := acc2.shape
        rw [wdR_len (show k + 1 ≤ (linksD b).length by omega)] at acc2 ⊢
        have hb2 := grown_below hb acc hg (by omega) (by omega)
        have hs2 := Nat.le_trans hs hg.size
        have BA2 := BA.keep (grown_block acc hg (by omega) BA.lt)
        have BR2 := BR.keep (grown_block acc hg (by omega) BR.lt)
        have BS2 := BS.keep (grown_block acc hg (by omega) BS.lt)
        have BC2 := BC.keep (grown_block acc hg (by omega) BC.lt)
        have BN2 := BN.keep (grown_block acc hg (by omega) BN.lt)
        have hso2 := hso.keep (fun p hp => grown_block acc hg (by have := HSP.out p hp; omega) (hso.lt p hp).2)
        have hlk2 := hlk.keep (fun p hp => grown_block acc hg (by have := HLL.out p hp; omega) (hlk.lt p hp).2)
        clear acc hg BA BR BS BC BN hb hs BL hb3 hso hlk
        have q := BC2.cell
        have f := BC2.free
        go_wp2_with fail
        go_roundw
        case rel => exact ⟨k + 1, by omega, by go_num, hb2.setCell (by dsimp only; omega) _, by simpa [size_setCell] using hs2, BA2.other _ (by dsimp only; omega), BR2.other _ (by dsimp only; omega), BS2.other _ (by dsimp only; omega), hso2.keep (keep_setCell (fun h => by have := (HSP.out _ h).2.2; simp at this)), hlk2.keep (keep_setCell (fun h => by have := HLL.out _ h; simp at this)), BN2.other _ (by dsimp only; omega), _, BC2.set 5 _, acc2.keep (fun j hj _ => heap_setCell_other _ _ _ _ (by dsimp only; omega))⟩
        case measure => simp [intOf]; omega
      · have HK : Hid (k = (linksD b).length) := by show _ = _; omega
        have HSO : Hid (StrsOwn W5.heap.size wr (.slice ka b.outer.length kc) b.outer) := ⟨hso, by omega, H3.out.2⟩
        have hnm := lit_at (n := (linksD b).length) BN hlt
        have HBD := Lib.hid (wirD_ok HD.out (Nat.le_refl (linksD b).length))
        go_wp2_with fail
        have gP0 := fun y => gr_cell (w := wr) (BC.cell 0) y
        have gP1 := fun y => gr_cell (w := wr) (BC.cell 1) y
        have gP2 := fun y => gr_cell (w := wr) (BC.cell 2) y
        have gP3 := fun y => gr_cell (w := wr) (BC.cell 3) y
        have gP4 := fun y => gr_cell (w := wr) (BC.cell 4) y
        have gP5 := fun y => gr_cell (w := wr) (BC.cell 5) y
        have gA0 := fun y => gr_cell (w := wr) (BA.cell 0) y
        have gA1 := fun y => gr_cell (w := wr) (BA.cell 1) y
        have gA2 := fun y => gr_cell (w := wr) (BA.cell 2) y
        have gA3 := fun y => gr_cell (w := wr) (BA.cell 3) y
        have gA4 := fun y => gr_cell (w := wr) (BA.cell 4) y
        have gA5 := fun y => gr_cell (w := wr) (BA.cell 5) y
        refine rg_region [0, 1, 2, 3] [4, 5, 6] (lo := (.cons _ (.cons _ (.cons _ .nil)))) (by rfl) (tAt 3 (eBigOwn wr.heap.size (discB b)) tNil) (by kernel_rfl) (by rfl) (by kernel_rfl) ?_
        refine rg_quiet anti_end [0, 1, 2] [3] (lo := (.cons _ (.cons _ (.cons _ .nil)))) (by rfl) (by kernel_rfl) ?_
        repeat (go_big_quiet_step (fail))
        refine wpQuiet_nil ?_
        refine rg_call 3 rfl rfl 99 #[.agg #[.int .i64 b.roots, .slice a1 b.nodes.length c1, .slice a2 b.sites.length c2, .int .i64 b.edges, .slice a3 b.outer.length c3, .slice a4 b.inner.length c4], .slice (some ⟨gN, 0, none⟩) (linksD b).length 16] ?_ ?_ ?_
        · intro w; simp [go_sem]
        · rintro w' ⟨y, rfl⟩ hd
          refine (l3Discrete_ct _ _ b (pts (linksD b).length) _ (HBIG.out.below (bthen hb (gr_below _ _))) (hnm.below (gr_below _ _)) HD.out (by rw [pts_len]; omega)).mono ?_
          rintro e w3 ⟨u, bs, rfl, hB, hN, bb⟩
          exact ⟨_, rfl, bb, bs, hB.mono (gr_below _ _).size, hN, fun p hp => hB.lt p hp⟩
        intro v hv
        obtain ⟨d1, e1, d2, e2, d3, e3, d4, e4, rfl⟩ : bigSh (discB b) v := hv
        simp only [Act.put, List.setIfInBounds_toArray, List.set_cons_zero, List.set_cons_succ]
        intro w8 U8 hb8 hF
        obtain ⟨_, _, _, _, _, hF⟩ := hF
        obtain ⟨bs, hB, hN, _⟩ : gBig wr.heap.size (discB b) (.agg #[.int .i64 (discB b).roots, .slice d1 (discB b).nodes.length e1, .slice d2 (discB b).sites.length e2, .int .i64 (discB b).edges, .slice d3 (discB b).outer.length e3, .slice d4 (discB b).inner.length e4]) w8 _ := hF
        clear gP0 gP1 gP2 gP3 gP4 gP5 gA0 gA1 gA2 gA3 gA4 gA5
        have BR8 := BR.below hb8
        have BS8 := BS.below hb8
        have hbl := hB.lt
        have hw8 := hb8.size
        have q := BR8.cell
        have f := BR8.free
        have q2 := BS8.cell
        have f2 := BS8.free
        go_wp2_with fail
        clear q f q2 f2
        obtain ⟨Y1, hY1, BR9, o1⟩ := box_fill BR8 (.int .i64 0) (.slice none 0 0) (.slice none 0 0) (.int .i64 b.edges) (.slice ka b.outer.length kc) (.slice av k cv)
        first | rw [← hY1] | fail "y1"
        have BS9 := BS8.keep (o1.block _ BS8.lt (fun h => by have := List.mem_singleton.1 h; omega))
        obtain ⟨Y2, hY2, BSa, o2⟩ := box_fill BS9 (.int .i64 (discB b).roots) (.slice d1 (discB b).nodes.length e1) (.slice d2 (discB b).sites.length e2) (.int .i64 (discB b).edges) (.slice d3 (discB b).outer.length e3) (.slice d4 (discB b).inner.length e4)
        first | rw [← hY2] | fail "y2"
        have BRa := BR9.keep (o2.block _ BR9.lt (fun h => by have := List.mem_singleton.1 h; omega))
        have hw5 := HW5.out
        have hk : ∀ p, w.heap.size + 3 ≤ p → p < w8.heap.size → Y2.heap[p]? = w8.heap[p]? := fun p hp hl => (o2.block p (Nat.lt_of_lt_of_le hl o1.size) (fun h => by have := List.mem_singleton.1 h; omega)).trans (o1.block p hl (fun h => by have := List.mem_singleton.1 h; omega))
        have hbY : Below w.heap.size w Y2 := ((bthen hb hb8).trans (o1.below (B := w.heap.size) (fun p hp => by have := List.mem_singleton.1 hp; omega) (by have := (bthen hb hb8).size; omega))).trans (o2.below (B := w.heap.size) (fun p hp => by have := List.mem_singleton.1 hp; omega) (by have := o1.size; have := (bthen hb hb8).size; omega))
        have q := BRa.cell
        have q2 := BSa.cell
        have hso8 := HSO.out.keep (keep_below hb8 (fun p hp => (HSO.out.lt p hp).2))
        have hsoY := hso8.keep (fun p hp => hk p (by have := (hso8.lt p hp).1; omega) (hso8.lt p hp).2)
        have acc8 := acc.own.keep (keep_below hb8 (fun p hp => (acc.own.lt p hp).2))
        have accY := acc8.keep (fun p hp => hk p (by have := (acc8.lt p hp).1; omega) (acc8.lt p hp).2)
        have hBY := hB.keep (fun p hp => hk p (by have := (hbl p hp).1; have := hb.size; omega) (hbl p hp).2)
        have hwl := acc.own.lt
        have hsl := HSO.out.lt
        have hsp := HSP.out
        have hbs := hb.size
        have HWI : Hid (WrsOwn w.heap.size Y2 (.slice av k cv) (wirD (linksD b) (linksD b).length)) := ⟨by have := accY.mono (B' := w.heap.size) (by omega); rw [HK.out] at this; rw [HK.out]; exact this, by rw [wirD_len (Nat.le_refl _)]; omega, HBD.out⟩
        have HNE : Hid (∀ p ∈ blks (.slice ka b.outer.length kc) ++ blks (.slice av k cv), w.heap.size + 3 ≤ p ∧ p < wr.heap.size) := fun p hp => by
          rcases List.mem_append.1 hp with h | h
          · have := hsl p h; omega
          · have := hwl p h; omega
        refine bodyPost_ret (v := .tuple #[.agg #[.int .i64 0, .slice none 0 0, .slice none 0 0, .int .i64 b.edges, .slice ka b.outer.length kc, .slice av k cv], .agg #[.int .i64 (discB b).roots, .slice d1 (discB b).nodes.length e1, .slice d2 (discB b).sites.length e2, .int .i64 (discB b).edges, .slice d3 (discB b).outer.length e3, .slice d4 (discB b).inner.length e4], .bool true]) (by simp [results, Tryz.results30, go_sem, q, q2]) rfl ⟨_, blks (.slice ka b.outer.length kc) ++ blks (.slice av k cv), _, bs, rfl, ⟨_, _, _, _, [], rfl, nds_none _ _, ints_none _ _, ⟨hsoY.1.mono (by omega), hsoY.2⟩, HWI.out, ?_, ?_, rfl⟩, ?_, hBY.mono (by omega), hN, ?_, hbY⟩
        · unfold I64 wireB; dsimp only; omega
        · have := HD.out.edges; unfold I64 wireB; dsimp only; omega
        · rw [List.nodup_append]
          exact ⟨blks_nodup _ _ _, blks_nodup _ _ _, fun p hp q hq => by have := hsp p hp; have := hwl q hq; omega⟩
        · intro p hp hq
          have := HNE.out p hp
          have := hbl p hq
          omega
end Go.Proofs.YthbdmcobpcoajaaGreatDoor
