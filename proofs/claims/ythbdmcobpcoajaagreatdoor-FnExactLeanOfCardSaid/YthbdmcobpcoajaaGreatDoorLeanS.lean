/- A bigraph without its idle edges: the reference's. -/
import Derived.Test.YthbdmcobpcoajaaGreatDoorLeanP
namespace Go.Proofs.YthbdmcobpcoajaaGreatDoor
open Go Go.RowKit Go.BigFrame

def cntL (b : Big) (n : Nat) : List Int := (List.range n).map fun (j : Nat) => (cntA b j : Int)
theorem cntL_len (b : Big) (n : Nat) : (cntL b n).length = n := by simp [cntL]
theorem cntL_get {b : Big} {n k : Nat} (h : k < n) : (cntL b n)[k]? = some (cntA b k : Int) := by simp [cntL, List.getElem?_range h]
theorem cntL_snoc (b : Big) (n : Nat) : intRows (cntL b (n + 1)) = intRows (cntL b n) ++ [[.int .i64 (cntA b n)]] := by simp [cntL, intRows, List.range_succ]
theorem cntL_len2 (b : Big) (n : Nat) : (intRows (cntL b n)).length = n := by simp [cntL, intRows]
set_option maxRecDepth 100000 in
set_option maxHeartbeats 2000000 in
theorem l3Squeezed_ct (v vt : Value) (b : Big) (x : Int) (E : Nat) (w : World) (h : BigAt w v b) (ht : IntsAt w vt (cntL b E)) (hx : 0 ≤ x ∧ x < b.edges + b.outer.length) (hE : b.edges = E) (he : 0 ≤ b.edges ∧ b.edges ≤ 8) (ho : b.outer.length ≤ 16) :
    Calls Tryz.prog 148 #[v, .int .i64 x, vt, .int .i64 (cntA b E)] w fun e w' => e = .returned (.int .i64 (sqF b x)) ∧ Below w.heap.size w w' := by
  obtain ⟨a1, c1, a2, c2, a3, c3, a4, c4, rfl⟩ := h.shape
  obtain ⟨ta, tc, rfl, _, _, H3⟩ := ht.open
  rw [cntL_len]
  have hce := cntA_le b E
  by_cases hlt : x < b.edges
  · obtain ⟨k, rfl⟩ : ∃ k : Nat, x = k := ⟨x.toNat, by omega⟩
    have hk : k < E := by omega
    obtain ⟨_, tb, to', rfl, hc⟩ := H3 k _ (cntL_get hk)
    have HN : Hid (sqF b (k : Int) = (cntA b k : Int)) := by show _ = _; unfold sqF; rw [if_pos hlt]; rfl
    have hbl := World.block_lt_of_cell? w _ hc
    clear H3 hE
    go_enter Tryz.func148, Tryz.ntmps148
    go_wp2_with fail
    go_ret
    exact ⟨by rw [HN.out]; rfl, balloc _ _⟩
  · have HN : Hid (sqF b x = x - b.edges + cntA b E) := by show _ = _; unfold sqF; rw [if_neg hlt, hE]; rfl
    have w1 : IntKind.i64.wrap (x - b.edges) = x - b.edges := Go.IntWalk.i64_in _ (by omega)
    have w2 : IntKind.i64.wrap (x - b.edges + (cntA b E : Int)) = x - b.edges + (cntA b E : Int) := Go.IntWalk.i64_in _ (by omega)
    clear H3 hE
    go_enter Tryz.func148, Tryz.ntmps148
    go_wp2_with fail
    go_ret
    exact ⟨by rw [HN.out]; go_num, balloc _ _⟩
set_option maxRecDepth 100000 in
set_option maxHeartbeats 8000000 in
theorem l3LeanForm_ct0 (v : Value) (sig : List Ctl) (b : Big) (E : Nat) (w : World) (h : BigAt w v b) (hG : Good sig b) (hE : b.edges = E) : Calls Tryz.prog 77 #[v] w fun e w' => ∃ u bs, e = .returned u ∧ BigOwn w.heap.size w' u (relB b (cntA b E) b.outer (sqF b)) bs ∧ bs.Nodup ∧ Below w.heap.size w w' := by
  obtain ⟨a1, c1, a2, c2, a3, c3, a4, c4, rfl⟩ := h.shape
  have hD := hG.bds
  have HFI := Lib.hid (fun l (hu : Used b l) => sqF_bd hD hu)
  have HOW := Lib.hid (fun W (h : BigAt W (.agg #[.int .i64 b.roots, .slice a1 b.nodes.length c1, .slice a2 b.sites.length c2, .int .i64 b.edges, .slice a3 b.outer.length c3, .slice a4 b.inner.length c4]) b) => l2Own_ct _ b W h (by have := hD.nodes; omega) (fun n hn => by have := hD.links n hn; omega) (by have := hD.sites; omega) (by have := hD.outer; omega) (by have := hD.inner; omega) (by have := hD.edges; omega) (fun n hn => by have := hD.par n hn; have := hD.roots; omega) (fun n hn x hx => by have := hD.lnk n hn x hx; have := hD.edges; have := hD.outer; omega) (fun p hp => by have := hD.site p hp; have := hD.roots; omega) (fun x hx => by have := hD.wire x hx; have := hD.edges; have := hD.outer; omega))
  have hnl8 := hD.nodes
  have hil := hD.inner
  have hbe := hD.edges
  have hol := hD.outer
  have hE8 : E ≤ 8 := by omega
  have HD := Lib.hid hD
  have HG := Lib.hid hG
  have HE := Lib.hid hE
  have HB0 := Lib.hid h
  clear hD h hG hE
  go_enter Tryz.func77, Tryz.ntmps77
  go_wp2_with fail
  obtain ⟨w2, hW0⟩ : ∃ W, W = (w.alloc (.cells #[.int .i64 b.roots, .slice a1 b.nodes.length c1, .slice a2 b.sites.length c2, .int .i64 b.edges, .slice a3 b.outer.length c3, .slice a4 b.inner.length c4] 34)).alloc (.cells #[.int .i64 0, .slice none 0 0, .slice none 0 0, .int .i64 0, .slice none 0 0, .slice none 0 0] 34) := ⟨_, rfl⟩
  rw [← hW0]
  have hA : Below w.heap.size w w2 := by rw [hW0]; exact bthen (balloc w _) (balloc _ _)
  have BA : Box w2 w.heap.size #[.int .i64 b.roots, .slice a1 b.nodes.length c1, .slice a2 b.sites.length c2, .int .i64 b.edges, .slice a3 b.outer.length c3, .slice a4 b.inner.length c4] 34 := by rw [hW0]; exact (Box.new _ _ _).alloc _
  have BR : Box w2 (w.heap.size + 1) #[.int .i64 0, .slice none 0 0, .slice none 0 0, .int .i64 0, .slice none 0 0, .slice none 0 0] 34 := by rw [hW0]; exact Box.new' _ _ _ (by simp)
  obtain ⟨g1, hg1⟩ : ∃ g, g = w.heap.size + 1 + 1 := ⟨_, rfl⟩
  have hw2 : w2.heap.size = g1 := by rw [hW0, hg1]; simp
  clear hW0
  rw [← hg1]
  obtain ⟨W4, hW4⟩ : ∃ W, W = w2.alloc (.cells #[] 3) := ⟨_, rfl⟩
  rw [← hW4]
  have b4 : Below w2.heap.size w2 W4 := by rw [hW4]; exact balloc w2 _
  have acc : Acc W4 g1 3 1 (.slice (some ⟨g1, 0, none⟩) 0 0) (intRows (cntL b 0)) := by
    rw [hW4, ← hw2]; simpa [cntL, intRows] using Acc.lit0 w2 w2.heap.size 3 1 (Nat.le_refl _)
  have BA := BA.below b4
  have BR := BR.below b4
  have hb := bthen hA b4
  have hgs : w.heap.size + 2 ≤ g1 := by omega
  have hs4 : g1 + 1 ≤ W4.heap.size := by rw [hW4, ← hw2]; simp
  clear b4 hA hg1 hW4 hw2
  go_loopw [3, 4, 5] (fun o m i W => ∃ k : Nat, k ≤ E ∧ i = .int .i64 k ∧ m = .int .i64 (cntA b k) ∧ Below g1 W4 W ∧ Acc W g1 3 1 o (intRows (cntL b k))) (fun _ _ i _ => E - (intOf i).toNat)
  case atStart => exact ⟨0, Nat.zero_le _, rfl, rfl, Below.refl _ _, acc⟩
  case round =>
    clear acc
    obtain ⟨k, hk, rfl, rfl, bN, acc⟩ := hrel
    obtain ⟨av, cv, rfl⟩ := acc.shape
    rw [cntL_len2] at acc ⊢
    have BAw := BA.keep (bN.block _ (by omega))
    have BRw := BR.keep (bN.block _ (by omega))
    have hbw := hb.trans (bN.mono (by omega))
    have hsw := bN.size
    have hck := cntA_le b k
    have q := BAw.cell
    by_cases hkl : (k : Int) < b.edges
    · have HT := Lib.hid (cntL_snoc b k)
      have bx := balloc wr (.cells #[.int .i64 (cntA b k)] 3)
      go_wp2_with (at_builtin; refine appR _ rfl (.tmp 17) (.tmp 19) 24 rfl g1 3 1 8 1 (.int .i64 0) Tryz.underlying24 inf_int rfl (by decide) (by decide) _ (intRows (cntL b k)) (by rfl) (acc.below bx) _ [[.int .i64 (cntA b k)]] (by rfl) (rowAt_one (row := [.int .i64 (cntA b k)]) (heap_alloc_new _ _) (by decide)) (by simp [Value.oneCell']) (by rw [cntL_len2]; simp; omega) (by simp; omega) ?_)
      intro v2 w6 acc3 hg _
      rw [← HT.out] at acc3
      obtain ⟨av3, cv3, rfl⟩ := acc3.shape
      rw [cntL_len2] at acc3 ⊢
      have bN3 := grown_below (bN.trans (bx.mono (by omega))) (acc.below bx) hg (Nat.le_refl _) (by have := bx.size; omega)
      have BA3 := BA.keep (bN3.block _ (by omega))
      have hb3 := hb.trans (bN3.mono (by omega))
      have q3 := BA3.cell
      have hs6 := bN3.size
      clear acc hg bx bN q BAw BRw hbw hsw
      cases hq : idleB b (k : Int) with
      | true =>
        have HC : Hid (cntA b (k + 1) = cntA b k) := by show _ = _; unfold cntA; rw [pickN_no (by unfold actF; rw [hq]; rfl)]
        have hci := l2Idle_ct _ sig b (k : Int) true w6 (HB0.out.below hb3) HG.out (by unfold I64; omega) hq
        clear hq
        go_wp2_with fail
        refine hci.mono ?_
        rintro e w7 ⟨rfl, b7⟩
        have bN4 := bN3.trans (b7.mono (by omega))
        have acc4 := acc3.below b7
        clear hci q3 bN3 BA3 acc3 b7 hb3
        go_wp2_with fail
        go_roundw
        case rel => exact ⟨k + 1, by have := HE.out; omega, by go_num, by rw [HC.out], bN4, acc4⟩
        case measure => have := HE.out; simp [intOf]; omega
      | false =>
        have HC : Hid (cntA b (k + 1) = cntA b k + 1) := by show _ = _; unfold cntA; rw [pickN_yes (by unfold actF; rw [hq]; rfl)]; simp
        have hci := l2Idle_ct _ sig b (k : Int) false w6 (HB0.out.below hb3) HG.out (by unfold I64; omega) hq
        clear hq
        go_wp2_with fail
        refine hci.mono ?_
        rintro e w7 ⟨rfl, b7⟩
        have bN4 := bN3.trans (b7.mono (by omega))
        have acc4 := acc3.below b7
        clear hci q3 bN3 BA3 acc3 b7 hb3
        go_wp2_with fail
        go_roundw
        case rel => exact ⟨k + 1, by have := HE.out; omega, by go_num, by rw [HC.out]; go_num, bN4, acc4⟩
        case measure => have := HE.out; simp [intOf]; omega
    · have e : E = k := by have := HE.out; omega
      subst e
      have hto0 : IntsOwn g1 wr (.slice av E cv) (cntL b E) := ⟨acc.own, by rw [cntL_len]; omega, fun x hx => by
        unfold cntL at hx
        obtain ⟨j, hj, rfl⟩ := List.mem_map.1 hx
        have := cntA_le b j
        have := List.mem_range.1 hj
        unfold I64; omega⟩
      have hol0 := HOW.out _ (HB0.out.below hbw)
      have HOX := Lib.hid hol0
      clear acc hol0 HOW
      go_wp2_with fail
      refine HOX.out.mono ?_
      rintro e w3 ⟨v', bs, rfl, hB, hN, hb3⟩
      obtain ⟨d1, e1, d2, e2, d3, e3, d4, e4, rfl⟩ := hB.at.shape
      have BA3 := BAw.below hb3
      have BR3 := BRw.below hb3
      have hb4 := bthen hbw hb3
      obtain ⟨n0, hn0, hn1⟩ : ∃ n, n ≤ wr.heap.size ∧ wr.heap.size ≤ n := ⟨_, Nat.le_refl _, Nat.le_refl _⟩
      have hB3 := hB.mono hn0
      have hs3 := hb3.size
      have hto3 := hto0.keep (keep_below hb3 (fun p hp => (hto0.lt p hp).2))
      have HTB0 : Hid (∀ p ∈ blks (.slice av E cv), p < wr.heap.size) := fun p hp => (hto0.lt p hp).2
      have hlt := hB3.lt
      clear q HOX hto0 hB BAw BRw hbw hb3
      go_wp2_with fail
      obtain ⟨W7, hW7⟩ : ∃ W, W = w3.alloc (.cells #[.int .i64 b.roots, .slice d1 b.nodes.length e1, .slice d2 b.sites.length e2, .int .i64 (cntA b E), .slice d3 b.outer.length e3, .slice d4 b.inner.length e4] 34) := ⟨_, rfl⟩
      rw [← hW7]
      have b7 : Below w3.heap.size w3 W7 := by rw [hW7]; exact balloc _ _
      have BP : Box W7 w3.heap.size #[.int .i64 b.roots, .slice d1 b.nodes.length e1, .slice d2 b.sites.length e2, .int .i64 (cntA b E), .slice d3 b.outer.length e3, .slice d4 b.inner.length e4] 34 := by rw [hW7]; exact Box.new _ _ _
      have hB7 := (hB3.keep (keep_below b7 (fun p hp => (hlt p hp).2))).edges (n := (cntA b E : Int)) (by unfold I64; omega)
      have hto := hto3.keep (keep_below b7 (fun p hp => (hto3.lt p hp).2))
      have BA := BA3.below b7
      have BR := BR3.below b7
      have hb := bthen hb4 b7
      obtain ⟨gp, hgp⟩ : ∃ g, g = w3.heap.size := ⟨_, rfl⟩
      have hbs : Hid (∀ q ∈ bs, n0 ≤ q ∧ q ≠ gp) := fun q hq => by have := hlt q hq; omega
      have HTB : Hid (∀ p ∈ blks (.slice av E cv), p ∉ bs) := fun p hp h => by have := HTB0.out p hp; have := (hbs.out p h).1; omega
      have hgl : n0 ≤ gp := by omega
      rw [← hgp] at BP ⊢
      have hB : BigOwn n0 W7 (.agg #[.int .i64 b.roots, .slice d1 b.nodes.length e1, .slice d2 b.sites.length e2, .int .i64 (cntA b E), .slice d3 b.outer.length e3, .slice d4 b.inner.length e4]) ⟨b.roots, progN (fun _ _ => sqF b) b.nodes 0 0, b.sites, (cntA b E), b.outer, b.inner⟩ bs := by rw [progN_zero]; exact hB7
      clear b7 hW7 hB7 hB3 hto3 BA3 BR3 hb4 hlt hgp HTB0
      go_loopw [7] (fun i W => ∃ k : Nat, k ≤ b.nodes.length ∧ i = .int .i64 k ∧ Only bs W7 W ∧ BigOwn n0 W (.agg #[.int .i64 b.roots, .slice d1 b.nodes.length e1, .slice d2 b.sites.length e2, .int .i64 (cntA b E), .slice d3 b.outer.length e3, .slice d4 b.inner.length e4]) ⟨b.roots, progN (fun _ _ => sqF b) b.nodes k 0, b.sites, (cntA b E), b.outer, b.inner⟩ bs) (fun i _ => b.nodes.length - (intOf i).toNat)
      case atStart => exact ⟨0, Nat.zero_le _, rfl, Only.refl _ _, hB⟩
      case round =>
        clear hB
        obtain ⟨k, hk, rfl, oW, hB⟩ := hrel
        by_cases hkl : k < b.nodes.length
        · obtain ⟨x, hx⟩ := getElem?_of_lt hkl
          obtain ⟨g, vl, rfl, _⟩ := hB.nodeAt (progN_get0 (f := (fun _ _ => sqF b)) hx)
          have BP0 := BP.keep (oW.block _ BP.lt (fun h => (hbs.out _ h).2 rfl))
          have q := BP0.cell
          have HXM : Hid (x ∈ b.nodes) := List.mem_of_getElem? hx
          have hxl := HD.out.links x HXM.out
          have HX := Lib.hid hx
          clear hx
          go_wp2_with fail
          clear q BP0
          obtain ⟨wa, rfl⟩ : ∃ W, W = wr := ⟨_, rfl⟩
          go_loopw [8] (fun i W => ∃ j : Nat, j ≤ x.links.length ∧ i = .int .i64 j ∧ Only bs W7 W ∧ BigOwn n0 W (.agg #[.int .i64 b.roots, .slice (some ⟨g, 0, none⟩) b.nodes.length e1, .slice d2 b.sites.length e2, .int .i64 (cntA b E), .slice d3 b.outer.length e3, .slice d4 b.inner.length e4]) ⟨b.roots, progN (fun _ _ => sqF b) b.nodes k j, b.sites, (cntA b E), b.outer, b.inner⟩ bs) (fun i _ => x.links.length - (intOf i).toNat)
          case atStart => exact ⟨0, Nat.zero_le _, rfl, oW, hB⟩
          case round =>
            clear hB oW
            obtain ⟨j, hj, rfl, oI, hB⟩ := hrel
            have BPw := BP.keep (oI.block _ BP.lt (fun h => (hbs.out _ h).2 rfl))
            have BAw := BA.keep (oI.block _ BA.lt (fun h => by have := (hbs.out _ h).1; omega))
            have BRw := BR.keep (oI.block _ BR.lt (fun h => by have := (hbs.out _ h).1; omega))
            have hbw : Below w.heap.size w wr := hb.trans (oI.below (B := w.heap.size) (fun p hp => by have := (hbs.out p hp).1; omega) (by have := hb.size; omega))
            have hBIG := HB0.out.below hbw
            have hTO := (hto.keep (fun p hp => oI.block p (hto.lt p hp).2 (HTB.out p hp))).at
            obtain ⟨g', vl, e', hgb, hfn, hxc, hxp, hvl, hc0, hc1, hc2'⟩ := hB.nodeAt (progN_get (f := (fun _ _ => sqF b)) HX.out)
            obtain rfl : g = g' := by simpa using e'
            obtain ⟨ya, yc, rfl, _, _, H6⟩ := hvl.open
            have hc2 : wr.cell? ⟨g, k * 3 + 2, none⟩ = some (.slice ya x.links.length yc) := by rw [← progI_len (fun _ => sqF b) x.links j]; exact hc2'
            have q := BPw.cell
            clear hc2' hvl e'
            by_cases hjl : j < x.links.length
            · obtain ⟨yl, hy⟩ := getElem?_of_lt hjl
              obtain ⟨hyI, gl, ol, rfl, hcy⟩ := H6 j yl (progI_get (f := (fun _ => sqF b)) hy)
              obtain ⟨⟨rfl, hmm, hglb, hglg⟩, hcy', hfz, hzz⟩ := hB.lnk hN (progN_get (f := (fun _ _ => sqF b)) HX.out) hc2 (progI_get (f := (fun _ => sqF b)) hy)
              have HY := Lib.hid hy
              have HYM : Hid (yl ∈ x.links) := List.mem_of_getElem? hy
              have hyb := HD.out.lnk x HXM.out yl HYM.out
              have hcy := hcy'
              clear hy hmm hfz hzz H6 hcy'
              go_wp2_with fail
              clear q
              have HYB := Lib.hid hyb
              have gA0 := fun y => gr_cell (w := wr) (BAw.cell 0) y
              have gA1 := fun y => gr_cell (w := wr) (BAw.cell 1) y
              have gA2 := fun y => gr_cell (w := wr) (BAw.cell 2) y
              have gA3 := fun y => gr_cell (w := wr) (BAw.cell 3) y
              have gA4 := fun y => gr_cell (w := wr) (BAw.cell 4) y
              have gA5 := fun y => gr_cell (w := wr) (BAw.cell 5) y
              have gP1 := fun y => gr_cell (w := wr) (BPw.cell 1) y
              have gc2 := fun y => gr_cell (w := wr) hc2 y
              have gcy := fun y => gr_cell (w := wr) hcy y
              refine rg_region [0, 1, 2, 3, 4, 5, 6, 7, 8, 9, 10, 11, 12, 13, 14, 15, 16, 17, 18, 19, 20] [21] (lo := (.cons _ .nil)) (by rfl) (tAt 19 (eVal (.int .i64 (sqF b yl))) tNil) (by kernel_rfl) (by rfl) (by kernel_rfl) ?_
              refine rg_quiet anti_end [0, 1, 2, 3, 4, 5, 6, 7, 8, 9, 10, 11, 12, 13, 14, 15, 16, 17, 18] [19, 20] (lo := (.cons _ (.cons _ (.cons _ (.cons _ (.cons _ (.cons _ (.cons _ (.cons _ (.cons _ (.cons _ (.cons _ (.cons _ (.cons _ (.cons _ (.cons _ (.cons _ (.cons _ (.cons _ (.cons _ .nil)))))))))))))))))))) (by rfl) (by kernel_rfl) ?_
              repeat (go_big_quiet_step (fail))
              refine wpQuiet_nil ?_
              refine rg_call 19 rfl rfl 148 #[.agg #[.int .i64 b.roots, .slice a1 b.nodes.length c1, .slice a2 b.sites.length c2, .int .i64 b.edges, .slice a3 b.outer.length c3, .slice a4 b.inner.length c4], .int .i64 yl, .slice av E cv, .int .i64 (cntA b E)] ?_ ?_ ?_
              · intro w; simp [go_sem]
              · rintro w' ⟨y, rfl⟩ hd
                refine (l3Squeezed_ct _ _ b yl E _ (hBIG.below (gr_below _ _)) (hTO.below (gr_below _ _)) HYB.out HE.out hbe hol).mono ?_
                rintro e w3 ⟨rfl, bb⟩
                exact ⟨_, rfl, bb, rfl⟩
              intro v hv
              obtain rfl : v = .int .i64 (sqF b yl) := hv
              simp only [Act.put, List.setIfInBounds_toArray, List.set_cons_zero, List.set_cons_succ]
              refine rg_quiet anti_end [20] [] (lo := (.cons _ .nil)) (by rfl) (by kernel_rfl) ?_
              repeat (go_big_quiet_step (fail))
              refine wpQuiet_nil ?_
              intro w4 U hb4 hF
              have hlt := hB.lt
              have hB4 := hB.keep (keep_below hb4 (fun p hp => (hlt p hp).2))
              have hc24 := (hb4.cell (World.block_lt_of_cell? wr _ hc2)).trans hc2
              obtain ⟨hmm, hcy4, hfr4, hst⟩ := hB4.lnk hN (progN_get (f := (fun _ _ => sqF b)) HX.out) hc24 (progI_get (f := (fun _ => sqF b)) HY.out)
              have hst := hst (sqF b yl) (HFI.out yl (.inl ⟨x, HXM.out, HYM.out⟩))
              have HST := Lib.hid hst
              have oI4 := oI.more hb4
              clear hst hB hB4 hF oI hlt hc0 hc1 hc2 hc24 hmm hcy
              go_wp2_with fail
              go_roundw
              case rel => exact ⟨j + 1, by omega, by go_num, oI4.setCell hglb _, by rw [progN_set HX.out HY.out]; exact HST.out⟩
              case measure => simp [intOf]; omega
            · have e : j = x.links.length := by omega
              subst e
              rw [progN_next HX.out] at hB
              clear H6
              go_wp2_with fail
              go_roundw
              case rel => exact ⟨k + 1, by omega, by go_num, oI, hB⟩
              case measure => simp [intOf]; omega
        · have e : k = b.nodes.length := by omega
          subst e
          rw [progN_full, allN_map] at hB
          have BP0 := BP.keep (oW.block _ BP.lt (fun h => (hbs.out _ h).2 rfl))
          have q := BP0.cell
          go_wp2_with fail
          clear q BP0
          obtain ⟨NS, hNS⟩ : ∃ l, l = (b.nodes.map fun n => { n with links := n.links.map (sqF b) }) := ⟨_, rfl⟩
          rw [← hNS] at hB
          have HNS := Lib.hid hNS
          obtain ⟨wa, rfl⟩ : ∃ W, W = wr := ⟨_, rfl⟩
          have hB0 : BigOwn n0 wa (.agg #[.int .i64 b.roots, .slice d1 b.nodes.length e1, .slice d2 b.sites.length e2, .int .i64 (cntA b E), .slice d3 b.outer.length e3, .slice d4 b.inner.length e4]) ⟨b.roots, NS, b.sites, (cntA b E), b.outer, progW (fun _ => sqF b) b.inner 0⟩ bs := by rw [progW_zero]; exact hB
          clear hB hNS
          go_loopw [9] (fun i W => ∃ j : Nat, j ≤ b.inner.length ∧ i = .int .i64 j ∧ Only bs W7 W ∧ BigOwn n0 W (.agg #[.int .i64 b.roots, .slice d1 b.nodes.length e1, .slice d2 b.sites.length e2, .int .i64 (cntA b E), .slice d3 b.outer.length e3, .slice d4 b.inner.length e4]) ⟨b.roots, NS, b.sites, (cntA b E), b.outer, progW (fun _ => sqF b) b.inner j⟩ bs) (fun i _ => b.inner.length - (intOf i).toNat)
          case atStart => exact ⟨0, Nat.zero_le _, rfl, oW, hB0⟩
          case round =>
            clear hB0 oW
            obtain ⟨j, hj, rfl, oI, hB⟩ := hrel
            have BPw := BP.keep (oI.block _ BP.lt (fun h => (hbs.out _ h).2 rfl))
            have BAw := BA.keep (oI.block _ BA.lt (fun h => by have := (hbs.out _ h).1; omega))
            have BRw := BR.keep (oI.block _ BR.lt (fun h => by have := (hbs.out _ h).1; omega))
            have hbw : Below w.heap.size w wr := hb.trans (oI.below (B := w.heap.size) (fun p hp => by have := (hbs.out p hp).1; omega) (by have := hb.size; omega))
            have hBIG := HB0.out.below hbw
            have hTO := (hto.keep (fun p hp => oI.block p (hto.lt p hp).2 (HTB.out p hp))).at
            have q := BPw.cell
            by_cases hjl : j < b.inner.length
            · obtain ⟨x, hx⟩ := getElem?_of_lt hjl
              obtain ⟨g, rfl, hgb, hc0, hc1, hfz, hzz⟩ := hB.wire hN (progW_get (f := (fun _ => sqF b)) hx)
              have HXM : Hid (x ∈ b.inner) := List.mem_of_getElem? hx
              have hyb := HD.out.wire x HXM.out
              have HX := Lib.hid hx
              clear hx hfz hzz
              go_wp2_with fail
              clear q
              have HYB := Lib.hid hyb
              have gA0 := fun y => gr_cell (w := wr) (BAw.cell 0) y
              have gA1 := fun y => gr_cell (w := wr) (BAw.cell 1) y
              have gA2 := fun y => gr_cell (w := wr) (BAw.cell 2) y
              have gA3 := fun y => gr_cell (w := wr) (BAw.cell 3) y
              have gA4 := fun y => gr_cell (w := wr) (BAw.cell 4) y
              have gA5 := fun y => gr_cell (w := wr) (BAw.cell 5) y
              have gP5 := fun y => gr_cell (w := wr) (BPw.cell 5) y
              have gc1 := fun y => gr_cell (w := wr) hc1 y
              refine rg_region [0, 1, 2, 3, 4, 5, 6, 7, 8, 9, 10, 11, 12, 13, 14] [15] (lo := (.cons _ .nil)) (by rfl) (tAt 12 (eVal (.int .i64 (sqF b x.link))) tNil) (by kernel_rfl) (by rfl) (by kernel_rfl) ?_
              refine rg_quiet anti_end [0, 1, 2, 3, 4, 5, 6, 7, 8, 9, 10, 11] [12, 13, 14] (lo := (.cons _ (.cons _ (.cons _ (.cons _ (.cons _ (.cons _ (.cons _ (.cons _ (.cons _ (.cons _ (.cons _ (.cons _ .nil))))))))))))) (by rfl) (by kernel_rfl) ?_
              repeat (go_big_quiet_step (fail))
              refine wpQuiet_nil ?_
              refine rg_call 12 rfl rfl 148 #[.agg #[.int .i64 b.roots, .slice a1 b.nodes.length c1, .slice a2 b.sites.length c2, .int .i64 b.edges, .slice a3 b.outer.length c3, .slice a4 b.inner.length c4], .int .i64 x.link, .slice av E cv, .int .i64 (cntA b E)] ?_ ?_ ?_
              · intro w; simp [go_sem]
              · rintro w' ⟨y, rfl⟩ hd
                refine (l3Squeezed_ct _ _ b x.link E _ (hBIG.below (gr_below _ _)) (hTO.below (gr_below _ _)) HYB.out HE.out hbe hol).mono ?_
                rintro e w3 ⟨rfl, bb⟩
                exact ⟨_, rfl, bb, rfl⟩
              intro v hv
              obtain rfl : v = .int .i64 (sqF b x.link) := hv
              simp only [Act.put, List.setIfInBounds_toArray, List.set_cons_zero, List.set_cons_succ]
              refine rg_quiet anti_end [13, 14] [] (lo := (.cons _ (.cons _ .nil))) (by rfl) (by kernel_rfl) ?_
              repeat (go_big_quiet_step (fail))
              refine wpQuiet_nil ?_
              intro w4 U hb4 hF
              have hlt := hB.lt
              have hB4 := hB.keep (keep_below hb4 (fun p hp => (hlt p hp).2))
              obtain ⟨g', e', _, hc5, hd5, hfr5, hst⟩ := hB4.wire hN (progW_get (f := (fun _ => sqF b)) HX.out)
              obtain rfl : g = g' := by simpa using e'
              have hst := hst (sqF b x.link) (HFI.out x.link (.inr ⟨x, HXM.out, rfl⟩))
              have HST := Lib.hid hst
              have oI4 := oI.more hb4
              clear hst hB hB4 hF oI hlt hc0 hc1 e'
              go_wp2_with fail
              go_roundw
              case rel => exact ⟨j + 1, by omega, by go_num, oI4.setCell hgb _, by rw [progW_set HX.out]; exact HST.out⟩
              case measure => simp [intOf]; omega
            · have e : j = b.inner.length := by omega
              subst e
              rw [progW_full, allW_map, HNS.out] at hB
              have q2 := BRw.cell
              have f2 := BRw.free
              go_wp2_with fail
              refine bodyPost_ret (v := .agg #[.int .i64 b.roots, .slice d1 b.nodes.length e1, .slice d2 b.sites.length e2, .int .i64 (cntA b E), .slice d3 b.outer.length e3, .slice d4 b.inner.length e4]) (by simp [results, Tryz.results77, go_sem, q2]) rfl ⟨_, bs, rfl, (fill6 hB (by omega) _ _ _ _ _ _).mono (by omega), hN, fill6b hbw (by omega) _ _ _ _ _ _⟩
theorem l3LeanForm_ct (v : Value) (sig : List Ctl) (b : Big) (w : World) (h : BigAt w v b) (hG : Good sig b) : Calls Tryz.prog 77 #[v] w fun e w' => ∃ u bs, e = .returned u ∧ BigOwn w.heap.size w' u (leanBig b) bs ∧ bs.Nodup ∧ Below w.heap.size w w' :=
  l3LeanForm_ct0 v sig b b.edges.toNat w h hG (by have := hG.edges; omega)
end Go.Proofs.YthbdmcobpcoajaaGreatDoor
