/- One root for all: the reference's. -/
import Derived.Test.YthbdmcobpcoajaaGreatDoorOwnS
import Derived.Test.YthbdmcobpcoajaaGreatDoorOne
import Derived.Test.YthbdmcobpcoajaaGreatDoorG1
namespace Go.Proofs.YthbdmcobpcoajaaGreatDoor
open Go Go.RowKit Go.BigFrame

def repRows (k : Nat) : List (List Value) := intRows (List.replicate k (-1))
theorem repRows_len (k : Nat) : (repRows k).length = k := by simp [repRows, intRows]
theorem repRows_snoc (k : Nat) : repRows (k + 1) = repRows k ++ [[.int .i64 (-1)]] := by simp [repRows, intRows, List.replicate_succ']
set_option maxRecDepth 100000 in
set_option maxHeartbeats 4000000 in
theorem l4One_ct (v : Value) (b : Big) (w : World) (h : BigAt w v b) (hn : b.nodes.length ≤ 1000) (hk : ∀ n ∈ b.nodes, n.links.length ≤ 1000) (hsl : b.sites.length ≤ 100) (ho : b.outer.length ≤ 1000) (hi : b.inner.length ≤ 1000) (he : 0 ≤ b.edges ∧ b.edges ≤ 1000) (hro : 0 ≤ b.roots ∧ b.roots ≤ 1000)
    (hpb : ∀ n ∈ b.nodes, -b.roots ≤ n.par ∧ n.par < (b.nodes.length : Int)) (hlb : ∀ n ∈ b.nodes, ∀ x ∈ n.links, 0 ≤ x ∧ x < 1073741824) (hsb : ∀ p ∈ b.sites, -b.roots ≤ p ∧ p < (b.nodes.length : Int)) (hib : ∀ x ∈ b.inner, 0 ≤ x.link ∧ x.link < 1073741824) :
    Calls Tryz.prog 96 #[v] w fun e w' => ∃ u bs, e = .returned u ∧ BigOwn w.heap.size w' u (mergeB b) bs ∧ bs.Nodup ∧ Below w.heap.size w w' := by
  obtain ⟨a1, c1, a2, c2, a3, c3, a4, c4, rfl⟩ := h.shape
  obtain ⟨R, hR⟩ : ∃ R : Nat, b.roots = R := ⟨b.roots.toNat, by omega⟩
  have HCT := Lib.hid (fun W (h : BigAt W (.agg #[.int .i64 b.roots, .slice a1 b.nodes.length c1, .slice a2 b.sites.length c2, .int .i64 b.edges, .slice a3 b.outer.length c3, .slice a4 b.inner.length c4]) b) => l2Own_ct _ b W h hn hk (by omega) ho hi he (fun n hn => by have := hpb n hn; omega) hlb (fun p hp => by have := hsb p hp; omega) hib)
  have HP := Lib.hid hpb
  have HS := Lib.hid hsb
  have HR := Lib.hid hR
  have HB0 := Lib.hid h
  have hR1 : R ≤ 1000 := by omega
  clear hk hpb hlb hsb hib h hR
  go_enter Tryz.func96, Tryz.ntmps96
  go_wp2_with fail
  obtain ⟨w2, hW0⟩ : ∃ W, W = (w.alloc (.cells #[.int .i64 b.roots, .slice a1 b.nodes.length c1, .slice a2 b.sites.length c2, .int .i64 b.edges, .slice a3 b.outer.length c3, .slice a4 b.inner.length c4] 34)).alloc (.cells #[.int .i64 0, .slice none 0 0, .slice none 0 0, .int .i64 0, .slice none 0 0, .slice none 0 0] 34) := ⟨_, rfl⟩
  rw [← hW0]
  have hA : Below w.heap.size w w2 := by rw [hW0]; exact bthen (balloc w _) (balloc _ _)
  have BA : Box w2 w.heap.size #[.int .i64 b.roots, .slice a1 b.nodes.length c1, .slice a2 b.sites.length c2, .int .i64 b.edges, .slice a3 b.outer.length c3, .slice a4 b.inner.length c4] 34 := by rw [hW0]; exact (Box.new _ _ _).alloc _
  have BR : Box w2 (w.heap.size + 1) #[.int .i64 0, .slice none 0 0, .slice none 0 0, .int .i64 0, .slice none 0 0, .slice none 0 0] 34 := by rw [hW0]; exact Box.new' _ _ _ (by simp)
  have hsz : w.heap.size + 2 ≤ w2.heap.size := by rw [hW0]; simp
  clear hW0
  refine (HCT.out _ (HB0.out.below hA)).mono ?_
  rintro e w3 ⟨v', bs, rfl, hB, hN, hb3⟩
  obtain ⟨d1, e1, d2, e2, d3, e3, d4, e4, rfl⟩ := hB.at.shape
  have BA := BA.below hb3
  have BR := BR.below hb3
  have hb := bthen hA hb3
  obtain ⟨n0, hn0, hn1⟩ : ∃ n, n ≤ w2.heap.size ∧ w2.heap.size ≤ n := ⟨_, Nat.le_refl _, Nat.le_refl _⟩
  have hB := hB.mono hn0
  have hs3 : n0 ≤ w3.heap.size := Nat.le_trans hn0 hb3.size
  have hlt := hB.lt
  clear hA hb3
  go_wp2_with fail
  obtain ⟨W4, hW4⟩ : ∃ W, W = (w3.alloc (.cells #[] 3)).alloc (.cells #[.int .i64 b.roots, .slice d1 b.nodes.length e1, .slice d2 b.sites.length e2, .int .i64 b.edges, .slice d3 b.outer.length e3, .slice d4 b.inner.length e4] 34) := ⟨_, rfl⟩
  rw [← hW4]
  have b4 : Below w3.heap.size w3 W4 := by rw [hW4]; exact bthen (balloc w3 _) (balloc _ _)
  obtain ⟨g1, hg1⟩ : ∃ g, g = w3.heap.size := ⟨_, rfl⟩
  obtain ⟨gp, hgp⟩ : ∃ g, g = g1 + 1 := ⟨_, rfl⟩
  have BP : Box W4 gp #[.int .i64 b.roots, .slice d1 b.nodes.length e1, .slice d2 b.sites.length e2, .int .i64 b.edges, .slice d3 b.outer.length e3, .slice d4 b.inner.length e4] 34 := by rw [hW4]; exact Box.new' _ _ _ (by simp [hgp, hg1])
  have acc : Acc W4 g1 3 1 (.slice (some ⟨g1, 0, none⟩) 0 0) (repRows 0) := by
    rw [hW4, hg1]; simpa [repRows, intRows] using (Acc.lit0 w3 w3.heap.size 3 1 (Nat.le_refl _)).below (balloc _ _)
  have hB := hB.keep (keep_below b4 (fun p hp => (hlt p hp).2))
  have hlg : Hid (∀ q ∈ bs, n0 ≤ q ∧ q < g1) := fun q hq => by rw [hg1]; exact hlt q hq
  have BA := BA.below b4
  have BR := BR.below b4
  have hb := bthen hb b4
  have hng : n0 ≤ g1 := by omega
  have hs4 : g1 + 2 ≤ W4.heap.size := by rw [hW4, hg1]; simp
  have hgg : g1 < gp := by omega
  rw [← hg1, ← hgp]
  have hfr : Hid (∀ g, (Value.slice (some ⟨g1, 0, none⟩) 0 0).ownBlock = some g → g ≠ gp) := fun g h => by
    simp only [Value.ownBlock, Option.some.injEq] at h
    omega
  clear b4 hW4 hlt hs3 hgp hg1
  go_loopw [4, 5] (fun o i W => ∃ k : Nat, k ≤ R ∧ i = .int .i64 k ∧ Below g1 W4 W ∧ Box W gp #[.int .i64 b.roots, .slice d1 b.nodes.length e1, .slice d2 b.sites.length e2, .int .i64 b.edges, .slice d3 b.outer.length e3, .slice d4 b.inner.length e4] 34 ∧ Acc W g1 3 1 o (repRows k) ∧ Hid (∀ g, o.ownBlock = some g → g ≠ gp)) (fun _ i _ => R - (intOf i).toNat)
  case atStart => exact ⟨0, Nat.zero_le _, rfl, Below.refl _ _, BP, acc, hfr⟩
  case round =>
    clear BP acc hfr
    obtain ⟨k, hk, rfl, bN, BP, acc, hfr⟩ := hrel
    obtain ⟨av, cv, rfl⟩ := acc.shape
    have HL : Hid ((repRows k).length = k) := repRows_len k
    rw [HL.out] at acc hfr ⊢
    have BAw := BA.keep (bN.block _ (by omega))
    have q := BAw.cell
    have hsw := bN.size
    by_cases hkl : (k : Int) < b.roots
    · have hkR : k < R := by have := HR.out; omega
      have HT := Lib.hid (repRows_snoc k)
      have bx := balloc wr (.cells #[.int .i64 (-1)] 3)
      go_wp2_with (at_builtin; refine appR _ rfl (.tmp 16) (.tmp 17) 24 rfl g1 3 1 8 1 (.int .i64 0) Tryz.underlying24 inf_int rfl (by decide) (by decide) _ (repRows k) (by rfl) (acc.below bx) _ [[.int .i64 (-1)]] (by rfl) (rowAt_one (row := [.int .i64 (-1)]) (heap_alloc_new _ _) (by decide)) (by simp [Value.oneCell']) (by rw [HL.out]; simp; omega) (by simp; omega) ?_)
      intro v2 w5 acc2 hg hf2
      rw [← HT.out] at acc2
      obtain ⟨av2, cv2, rfl⟩ := acc2.shape
      rw [repRows_len] at acc2 hf2 ⊢
      have bN2 := grown_below (bN.trans (bx.mono (by omega))) (acc.below bx) hg (Nat.le_refl _) (by have := bx.size; omega)
      have hl2 := BP.lt
      have BP2 := (BP.below bx).keep (hg.block _ (Nat.lt_of_lt_of_le BP.lt bx.size) (fun e => hfr.out _ e.symm rfl))
      have hfr2 : Hid (∀ g, (Value.slice av2 (k + 1) cv2).ownBlock = some g → g ≠ gp) := by
        intro g e
        rcases hf2 with h | h
        · rw [h] at e; exact hfr.out g e
        · rw [h] at e
          have := Option.some.inj e
          have hb' := bx.size
          omega
      clear acc hg hf2 BP bN hfr bx q
      go_wp2_with fail
      go_roundw
      case rel => exact ⟨k + 1, by omega, by go_num, bN2, BP2, acc2, hfr2⟩
      case measure => simp [intOf]; omega
    · have e : k = R := by have := HR.out; omega
      subst e
      have hro : IntsOwn g1 wr (.slice av k cv) (List.replicate k (-1)) := ⟨acc.own, by simp; omega, fun x hx => by have := List.eq_of_mem_replicate hx; unfold I64; omega⟩
      have HRO : Hid (∀ q ∈ blks (.slice av k cv), g1 ≤ q ∧ q ≠ gp) := fun q hq => ⟨(hro.lt q hq).1, fun e => hfr.out q (blks_own hq) e⟩
      have hB1 := hB.keep (fun p hp => bN.block p (hlg.out p hp).2)
      have BRw := BR.keep (bN.block _ (by omega))
      have hbw := hb.trans (bN.mono (by omega))
      have f := BP.free
      have q1 := BP.cell
      have BP1 : Box (wr.setCell ⟨gp, 0, none⟩ (.int .i64 1)) gp #[.int .i64 1, .slice d1 b.nodes.length e1, .slice d2 b.sites.length e2, .int .i64 b.edges, .slice d3 b.outer.length e3, .slice d4 b.inner.length e4] 34 := BP.set 0 _
      have hB2 := (hB1.keep (keep_setCell (p := ⟨gp, 0, none⟩) (u := .int .i64 1) (fun h => by have := (hlg.out _ h).2; simp at this; omega))).roots (n := 1) (by unfold I64; omega)
      have hro2 := hro.keep (keep_setCell (p := ⟨gp, 0, none⟩) (u := .int .i64 1) (fun h => (HRO.out _ h).2 rfl))
      have BA2 := BAw.other (p := ⟨gp, 0, none⟩) (.int .i64 1) (by simp; omega)
      have BR2 := BRw.other (p := ⟨gp, 0, none⟩) (.int .i64 1) (by simp; omega)
      have hb2 := hbw.setCell (p := ⟨gp, 0, none⟩) (by simp; omega) (.int .i64 1)
      have hB2' : BigOwn n0 (wr.setCell ⟨gp, 0, none⟩ (.int .i64 1)) (.agg #[.int .i64 1, .slice d1 b.nodes.length e1, .slice d2 b.sites.length e2, .int .i64 b.edges, .slice d3 b.outer.length e3, .slice d4 b.inner.length e4]) ⟨1, progP (oneP 0 (List.replicate k (-1))) b.nodes 0, b.sites, b.edges, b.outer, b.inner⟩ bs := by rw [progP_zero]; exact hB2
      have hgs : gp < wr.heap.size := BP.lt
      clear acc hro hfr hB1 BRw hbw hB BAw hB2 BA BR hb BP bN
      go_wp2_with fail
      clear q q1 f
      obtain ⟨wa, hwa⟩ : ∃ W, W = wr.setCell ⟨gp, 0, none⟩ (.int .i64 1) := ⟨_, rfl⟩
      have hsa : wa.heap.size = wr.heap.size := by rw [hwa]; exact size_setCell _ _ _
      rw [← hwa] at BP1 hro2 BA2 BR2 hb2 hB2' ⊢
      have hgs2 : gp < wa.heap.size := by omega
      have HG : Hid (∀ q ∈ blks (.slice av k cv), q ∉ bs) := fun q hq h => by have := (hlg.out q h).2; have := (HRO.out q hq).1; omega
      clear hwa hsa hgs hsw HCT
      go_loopw [6] (fun i W => ∃ j : Nat, j ≤ b.nodes.length ∧ i = .int .i64 j ∧ Only bs wa W ∧ BigOwn n0 W (.agg #[.int .i64 1, .slice d1 b.nodes.length e1, .slice d2 b.sites.length e2, .int .i64 b.edges, .slice d3 b.outer.length e3, .slice d4 b.inner.length e4]) ⟨1, progP (oneP 0 (List.replicate k (-1))) b.nodes j, b.sites, b.edges, b.outer, b.inner⟩ bs) (fun i _ => b.nodes.length - (intOf i).toNat)
      case atStart => exact ⟨0, Nat.zero_le _, rfl, Only.refl _ _, hB2'⟩
      case round =>
        clear hB2'
        obtain ⟨j, hj, rfl, oW, hB⟩ := hrel
        have BPw := BP1.keep (oW.block _ hgs2 (fun h => by have := (hlg.out _ h).2; omega))
        have BAw := BA2.keep (oW.block _ BA2.lt (fun h => by have := (hlg.out _ h).1; omega))
        have BRw := BR2.keep (oW.block _ BR2.lt (fun h => by have := (hlg.out _ h).1; omega))
        have hps := hro2.keep (fun p hp => oW.block p (hro2.lt p hp).2 (HG.out p hp))
        have hpsA := hps.at
        have q := BPw.cell
        by_cases hjl : j < b.nodes.length
        · obtain ⟨x, hx⟩ := getElem?_of_lt hjl
          obtain ⟨g, vl, rfl, hgb, hfr, hx1, hx2, hvl, hc0, hc1, hc2⟩ := hB.nodeAt (progP_get (f := oneP 0 (List.replicate k (-1))) hx)
          have HX : Hid (b.nodes[j]? = some x) := hx
          have hpx := HP.out x (List.mem_of_getElem? hx)
          have HPX : Hid (-((List.replicate k (-1 : Int)).length : Int) ≤ x.par ∧ x.par < 1073741824) := ⟨by have := HR.out; simp; omega, by omega⟩
          have HI : Hid (I64 (oneP 0 (List.replicate k (-1)) x.par)) := by
            show I64 _
            rw [oneP_top (by have := HR.out; omega)]
            unfold topP I64; omega
          have BPw' := BPw
          clear hx
          go_wp2_with fail
          clear q
          have gP1 := fun y => gr_cell (w := wr) (BPw.cell 1) y
          have gc1 := fun y => gr_cell (w := wr) hc1 y
          refine rg_region [0, 1, 2, 3, 4, 5, 6, 7, 8, 9, 10, 11, 12] [13] (lo := (.cons _ .nil)) (by rfl) (tAt 10 (eVal (.int .i64 (oneP 0 (List.replicate k (-1)) x.par))) tNil) (by kernel_rfl) (by rfl) (by kernel_rfl) ?_
          refine rg_quiet anti_end [0, 1, 2, 3, 4, 5, 6, 7, 8, 9] [10, 11, 12] (lo := (.cons _ (.cons _ (.cons _ (.cons _ (.cons _ (.cons _ (.cons _ (.cons _ (.cons _ (.cons _ .nil))))))))))) (by rfl) (by kernel_rfl) ?_
          repeat (go_big_quiet_step (fail))
          refine wpQuiet_nil ?_
          refine rg_call 10 rfl rfl 178 #[.int .i64 x.par, .int .i64 0, .slice av k cv] ?_ ?_ ?_
          · intro w; simp [go_sem]
          · rintro w' ⟨y, rfl⟩ hd
            refine (l4Parent_ct _ (List.replicate k (-1)) 0 x.par _ _ (hpsA.below (gr_below _ _)) HPX.out ⟨by omega, by omega⟩ rfl).mono ?_
            rintro e w3 ⟨rfl, rfl⟩
            exact ⟨_, rfl, Below.refl _ _, rfl⟩
          intro v hv
          obtain rfl : v = .int .i64 (oneP 0 (List.replicate k (-1)) x.par) := hv
          simp only [Act.put, List.setIfInBounds_toArray, List.set_cons_zero, List.set_cons_succ]
          refine rg_quiet anti_end [11, 12] [] (lo := (.cons _ (.cons _ .nil))) (by rfl) (by kernel_rfl) ?_
          repeat (go_big_quiet_step (fail))
          refine wpQuiet_nil ?_
          intro w4 U hb4 hF
          have hd1 := (hb4.cell (World.block_lt_of_cell? wr _ hc1)).trans hc1
          have hfx := (hb4.frozen (World.block_lt_of_cell? wr _ hc1)).trans hfr
          have hlt := hB.lt
          have hB4 := hB.keep (keep_below hb4 (fun p hp => (hlt p hp).2))
          have oW4 := oW.more hb4
          have hst := hB4.par hN (progP_get (f := oneP 0 (List.replicate k (-1))) HX.out) HI.out
          have HST := Lib.hid hst
          clear hst hB hB4 oW hF hb4 gP1 gc1 hps hpsA BAw BRw BPw BPw' hc0 hc1 hc2
          go_wp2_with fail
          go_roundw
          case rel => exact ⟨j + 1, by omega, by go_num, oW4.setCell hgb _, by rw [progP_set HX.out]; exact HST.out⟩
          case measure => simp [intOf]; omega
        · have e : j = b.nodes.length := by omega
          subst e
          rw [progP_full] at hB
          have hbw := hb2.trans (oW.below (B := w.heap.size) (fun p hp => by have := (hlg.out p hp).1; omega) (by have := hb2.size; omega))
          have q0 := BAw.cell
          have hlt := hB.lt
          go_wp2_with fail
          refine (l4Sites_ct _ _ b (List.replicate k (-1)) 0 _ (HB0.out.below hbw) hpsA hsl ⟨by omega, by omega⟩ (fun p hp => by have := HS.out p hp; have := HR.out; simp; omega) (fun p hp => by
            rw [oneP_top (by have := HS.out p hp; have := HR.out; omega)]
            have := HS.out p hp
            unfold topP I64; omega)).mono ?_
          rintro e w6 ⟨u, rfl, hu, b6⟩
          obtain ⟨ua, uc, rfl⟩ : ∃ a c, u = .slice a b.sites.length c := by have := hu.shape; simpa [oneN] using this
          have hB6 := hB.keep (keep_below b6 (fun p hp => (hlt p hp).2))
          have BP6 := BPw.below b6
          have BR6 := BRw.below b6
          have hb6 := bthen hbw b6
          have hul := hu.lt
          have hu6 := hu.mono (B' := n0) (by have := oW.size; omega)
          obtain ⟨bs2, hB7, hN7, hq7⟩ := hB6.sites hN hu6 (fun q hq h => by have := (hul q hq).1; have := (hlt q h).2; omega)
          have hgw := BPw.lt
          have hB8 := hB7.keep (keep_setCell (p := ⟨gp, 2, none⟩) (u := .slice ua b.sites.length uc) (fun h => by
            rcases hq7 _ h with h | h
            · have := (hlg.out _ h).2; simp at this; omega
            · have := (hul _ h).1; simp at this; omega))
          have HM : Hid ((⟨1, b.nodes.map (fun n => { n with par := oneP 0 (List.replicate k (-1)) n.par }), oneN 0 (List.replicate k (-1)) b.sites, b.edges, b.outer, b.inner⟩ : Big) = mergeB b) := by
            show _ = _
            unfold mergeB oneN
            congr 1
            · apply List.map_congr_left; intro n hn
              rw [oneP_top (by have := HP.out n hn; have := HR.out; omega)]
            · apply List.map_congr_left; intro p hp
              rw [oneP_top (by have := HS.out p hp; have := HR.out; omega)]
          have HB8 := Lib.hid hB8
          have BP7 : Box (w6.setCell ⟨gp, 2, none⟩ (.slice ua b.sites.length uc)) gp _ 34 := BP6.set 2 (.slice ua b.sites.length uc)
          have BR7 := BR6.other (p := ⟨gp, 2, none⟩) (.slice ua b.sites.length uc) (by simp; omega)
          have hb7 := hb6.setCell (p := ⟨gp, 2, none⟩) (by simp; omega) (.slice ua b.sites.length uc)
          have q := BP6.cell
          have f := BP6.free
          have q7 := BP7.cell
          have q2 := BR7.cell
          have f2 := BR7.free
          clear hB hB6 hB7 hB8 oW hps hpsA hu hu6 hul BAw BRw BPw q0
          go_wp2_with fail
          have hB8 := HB8.out
          refine bodyPost_ret (v := .agg #[.int .i64 1, .slice d1 b.nodes.length e1, .slice ua b.sites.length uc, .int .i64 b.edges, .slice d3 b.outer.length e3, .slice d4 b.inner.length e4]) (by simp [results, Tryz.results96, go_sem, q2]) rfl ⟨_, bs2, rfl, by rw [← HM.out]; exact (fill6 hB8 (by omega) _ _ _ _ _ _).mono (by omega), hN7, fill6b hb7 (by omega) _ _ _ _ _ _⟩
end Go.Proofs.YthbdmcobpcoajaaGreatDoor
