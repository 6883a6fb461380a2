/- Other outer names: the reference's. -/
import Derived.Test.YthbdmcobpcoajaaGreatDoorOwnS
import Derived.Test.YthbdmcobpcoajaaGreatDoorG2
namespace Go.Proofs.YthbdmcobpcoajaaGreatDoor
open Go Go.RowKit Go.BigFrame

theorem progN_same {f : Nat → Nat → Int → Int} {l : List Nd} {i k : Nat} {n : Nd} {x : Int} (h : l[i]? = some n) (hx : n.links[k]? = some x) (hf : f i k x = x) : progN f l i (k + 1) = progN f l i k := by
  rw [progN_set h hx, hf, setLnk_of _ (progN_get h)]
  have e : (progI (f i) n.links k).set k x = progI (f i) n.links k := set_self (progI_get hx)
  show (progN f l i k).set i { n with links := (progI (f i) n.links k).set k x } = _
  rw [e]
  exact set_self (progN_get h)
theorem progW_same {f : Nat → Int → Int} {l : List Wr} {k : Nat} {x : Wr} (h : l[k]? = some x) (hf : f k x.link = x.link) : progW f l (k + 1) = progW f l k := by
  rw [progW_set h, hf]
  exact set_self (progW_get h)
/-- The link that a link becomes when the outer names become others. -/
def outF (b : Big) (names outer : List ByteArray) (x : Int) : Int := if x < b.edges then x else b.edges + Lib.idxOfS outer (names.getD (x - b.edges).toNat ⟨#[]⟩)
theorem outF_bd {b : Big} {names outer : List ByteArray} {x : Int} (hD : Bds b) (hx : 0 ≤ x ∧ x < b.edges + b.outer.length) (ho : outer.length ≤ 1000) : I64 (outF b names outer x) := by
  have h1 := hD.edges
  have h2 := hD.outer
  unfold outF I64
  split
  · omega
  · have := idx_bd outer (names.getD (x - b.edges).toNat ⟨#[]⟩); omega
theorem used_bd {b : Big} (hD : Bds b) {l : Int} (h : Used b l) : 0 ≤ l ∧ l < b.edges + b.outer.length := by
  rcases h with ⟨n, hn, hx⟩ | ⟨x, hx, rfl⟩
  · exact hD.lnk n hn l hx
  · exact hD.wire x hx
set_option maxRecDepth 100000 in
set_option maxHeartbeats 8000000 in
theorem l2Outer_ct (v vn vo : Value) (b : Big) (names outer : List ByteArray) (w : World) (h : BigAt w v b) (hnm : StrsAt w vn names) (hou : StrsAt w vo outer) (hD : Bds b) (hnl : names.length = b.outer.length) (ho : outer.length ≤ 1000) :
    Calls Tryz.prog 119 #[v, vn, vo] w fun e w' => ∃ u bs, e = .returned u ∧ BigOwn w.heap.size w' u (relB b b.edges outer (outF b names outer)) bs ∧ bs.Nodup ∧ Below w.heap.size w w' := by
  obtain ⟨a1, c1, a2, c2, a3, c3, a4, c4, rfl⟩ := h.shape
  obtain ⟨na, nc, rfl, _, _, HNM0⟩ := hnm.open
  obtain ⟨oa, oc, rfl, _⟩ := hou.open
  have HNM := Lib.hid HNM0
  have HNL := Lib.hid hnl
  have HOUT := Lib.hid hou
  have HOS := Lib.hid hou.2
  have HFI := Lib.hid (fun l (hu : Used b l) => outF_bd (names := names) hD (used_bd hD hu) ho)
  have HOW := Lib.hid (fun W (h : BigAt W (.agg #[.int .i64 b.roots, .slice a1 b.nodes.length c1, .slice a2 b.sites.length c2, .int .i64 b.edges, .slice a3 b.outer.length c3, .slice a4 b.inner.length c4]) b) => l2Own_ct _ b W h (by have := hD.nodes; omega) (fun n hn => by have := hD.links n hn; omega) (by have := hD.sites; omega) (by have := hD.outer; omega) (by have := hD.inner; omega) (by have := hD.edges; omega) (fun n hn => by have := hD.par n hn; have := hD.roots; omega) (fun n hn x hx => by have := hD.lnk n hn x hx; have := hD.edges; have := hD.outer; omega) (fun p hp => by have := hD.site p hp; have := hD.roots; omega) (fun x hx => by have := hD.wire x hx; have := hD.edges; have := hD.outer; omega))
  have hnl8 := hD.nodes
  have hil := hD.inner
  have hbe := hD.edges
  have hol := hD.outer
  have HD := Lib.hid hD
  have HB0 := Lib.hid h
  clear hnm hou HNM0 hnl hD h
  go_enter Tryz.func119, Tryz.ntmps119
  go_wp2_with fail
  obtain ⟨w2, hW0⟩ : ∃ W, W = (w.alloc (.cells #[.int .i64 b.roots, .slice a1 b.nodes.length c1, .slice a2 b.sites.length c2, .int .i64 b.edges, .slice a3 b.outer.length c3, .slice a4 b.inner.length c4] 34)).alloc (.cells #[.int .i64 0, .slice none 0 0, .slice none 0 0, .int .i64 0, .slice none 0 0, .slice none 0 0] 34) := ⟨_, rfl⟩
  rw [← hW0]
  have hA : Below w.heap.size w w2 := by rw [hW0]; exact bthen (balloc w _) (balloc _ _)
  have BA : Box w2 w.heap.size #[.int .i64 b.roots, .slice a1 b.nodes.length c1, .slice a2 b.sites.length c2, .int .i64 b.edges, .slice a3 b.outer.length c3, .slice a4 b.inner.length c4] 34 := by rw [hW0]; exact (Box.new _ _ _).alloc _
  have BR : Box w2 (w.heap.size + 1) #[.int .i64 0, .slice none 0 0, .slice none 0 0, .int .i64 0, .slice none 0 0, .slice none 0 0] 34 := by rw [hW0]; exact Box.new' _ _ _ (by simp)
  have hsz : w.heap.size + 2 ≤ w2.heap.size := by rw [hW0]; simp
  clear hW0
  refine (HOW.out _ (HB0.out.below hA)).mono ?_
  rintro e w3 ⟨v', bs0, rfl, hB, hN0, hb3⟩
  obtain ⟨d1, e1, d2, e2, d3, e3, d4, e4, rfl⟩ := hB.at.shape
  have BA := BA.below hb3
  have BR := BR.below hb3
  have hb := bthen hA hb3
  obtain ⟨n0, hn0, hn1⟩ : ∃ n, n ≤ w2.heap.size ∧ w2.heap.size ≤ n := ⟨_, Nat.le_refl _, Nat.le_refl _⟩
  have hB := hB.mono hn0
  have hs3 : n0 ≤ w3.heap.size := Nat.le_trans hn0 hb3.size
  have hlt := hB.lt
  clear hA hb3 HOW
  have bX : Below w3.heap.size w3 ((w3.alloc (.cells #[.int .i64 b.roots, .slice d1 b.nodes.length e1, .slice d2 b.sites.length e2, .int .i64 b.edges, .slice d3 b.outer.length e3, .slice d4 b.inner.length e4] 34)).alloc (.cells #[] 9)) := bthen (balloc _ _) (balloc _ _)
  have accX : Acc ((w3.alloc (.cells #[.int .i64 b.roots, .slice d1 b.nodes.length e1, .slice d2 b.sites.length e2, .int .i64 b.edges, .slice d3 b.outer.length e3, .slice d4 b.inner.length e4] 34)).alloc (.cells #[] 9)) (w3.heap.size + 1) 9 1 (.slice (some ⟨w3.heap.size + 1, 0, none⟩) 0 0) [] := by
    have := Acc.lit0 (w3.alloc (.cells #[.int .i64 b.roots, .slice d1 b.nodes.length e1, .slice d2 b.sites.length e2, .int .i64 b.edges, .slice d3 b.outer.length e3, .slice d4 b.inner.length e4] 34)) (w3.heap.size + 1) 9 1 (by simp)
    simpa using this
  have hOX := (HOUT.out.below (bthen hb bX)).1
  have BPX : Box ((w3.alloc (.cells #[.int .i64 b.roots, .slice d1 b.nodes.length e1, .slice d2 b.sites.length e2, .int .i64 b.edges, .slice d3 b.outer.length e3, .slice d4 b.inner.length e4] 34)).alloc (.cells #[] 9)) w3.heap.size #[.int .i64 b.roots, .slice d1 b.nodes.length e1, .slice d2 b.sites.length e2, .int .i64 b.edges, .slice d3 b.outer.length e3, .slice d4 b.inner.length e4] 34 := (Box.new _ _ _).alloc _
  go_wp2_with (at_builtin; refine appR _ rfl (.tmp 15) (.tmp 16) 25 rfl (w3.heap.size + 1) 9 1 16 1073741824 (.string ⟨#[]⟩) Tryz.underlying25 inf_str rfl (by decide) (by decide) _ [] (by rfl) accX _ (strRows outer) (by rfl) hOX (one_strRows _) (by rw [len_strRows]; simp; omega) (by simp) ?_)
  intro v2 w5 acc2 hg _

  obtain ⟨ua, uc, rfl⟩ := acc2.shape
  rw [len_strRows] at acc2 ⊢
  have hk5 : ∀ k, k ≤ w3.heap.size → w5.heap[k]? = ((w3.alloc (.cells #[.int .i64 b.roots, .slice d1 b.nodes.length e1, .slice d2 b.sites.length e2, .int .i64 b.edges, .slice d3 b.outer.length e3, .slice d4 b.inner.length e4] 34)).alloc (.cells #[] 9)).heap[k]? := fun k hk => hg.block k (by simp; omega) (fun e => by simp only [Value.ownBlock, Option.some.injEq] at e; omega)
  have b5 : Below w3.heap.size w3 w5 := ⟨hg.os.trans bX.os, hg.tape.trans bX.tape, hg.output.trans bX.output, Nat.le_trans bX.size hg.size, fun k hk => (hk5 k (by omega)).trans (bX.block k hk)⟩
  have BP5 := BPX.keep (hk5 _ (Nat.le_refl _))
  obtain ⟨gp, hgp⟩ : ∃ g, g = w3.heap.size := ⟨_, rfl⟩
  have hro := acc2.own
  have hul := hro.lt
  have hso : StrsOwn n0 w5 (.slice ua outer.length uc) outer := ⟨hro.mono (by omega), by omega, HOS.out⟩
  have hB5 := hB.keep (keep_below b5 (fun p hp => (hlt p hp).2))
  obtain ⟨bs, hB6, hN, hq6⟩ := hB5.outer hN0 hso (fun q hq h => by have := (hul q hq).1; have := (hlt q h).2; omega)
  have hbs : Hid (∀ q ∈ bs, n0 ≤ q ∧ q ≠ gp) := fun q hq => by
    rcases hq6 q hq with h | h
    · have := hlt q h; omega
    · have := (hul q h).1; omega
  have BA5 := BA.below b5
  have BR5 := BR.below b5
  have hb5 := bthen hb b5
  have hng : n0 ≤ gp := by omega
  rw [← hgp] at BP5 ⊢
  have BP6 : Box (w5.setCell ⟨gp, 4, none⟩ (.slice ua outer.length uc)) gp #[.int .i64 b.roots, .slice d1 b.nodes.length e1, .slice d2 b.sites.length e2, .int .i64 b.edges, .slice ua outer.length uc, .slice d4 b.inner.length e4] 34 := BP5.set 4 _
  have hB7 := hB6.keep (keep_setCell (p := ⟨gp, 4, none⟩) (u := .slice ua outer.length uc) (fun h => (hbs.out _ h).2 rfl))
  have hB8 : BigOwn n0 (w5.setCell ⟨gp, 4, none⟩ (.slice ua outer.length uc)) (.agg #[.int .i64 b.roots, .slice d1 b.nodes.length e1, .slice d2 b.sites.length e2, .int .i64 b.edges, .slice ua outer.length uc, .slice d4 b.inner.length e4]) ⟨b.roots, progN (fun _ _ => outF b names outer) b.nodes 0 0, b.sites, b.edges, outer, b.inner⟩ bs := by rw [progN_zero]; exact hB7
  have HB8 := Lib.hid hB8
  have HBP := Lib.hid BP6
  have q := BP5.cell
  have ff := BP5.free
  clear hB hB5 hB6 hB7 hB8 hso hul hq6 hlt hro acc2 hg hk5 accX hOX BPX bX b5 BP6 BA BR hb hN0 hgp hs3
  go_wp2_with fail
  obtain ⟨W7, hW7⟩ : ∃ W, W = w5.setCell ⟨gp, 4, none⟩ (.slice ua outer.length uc) := ⟨_, rfl⟩
  have oo : Only [gp] w5 W7 := by rw [hW7]; exact (Only.refl _ _).setCell (by simp) _
  have BP := HBP.out
  have hB := HB8.out
  rw [← hW7] at BP hB ⊢
  clear HB8 HBP hW7 q ff
  have BA := BA5.keep (oo.block _ BA5.lt (fun h => by have := List.mem_singleton.1 h; omega))
  have BR := BR5.keep (oo.block _ BR5.lt (fun h => by have := List.mem_singleton.1 h; omega))
  have hb := hb5.trans (oo.below (B := w.heap.size) (fun p hp => by have := List.mem_singleton.1 hp; omega) (by have := hb5.size; omega))
  clear oo BA5 BR5 hb5 BP5
  go_loopw [8] (fun i W => ∃ k : Nat, k ≤ b.nodes.length ∧ i = .int .i64 k ∧ Only bs W7 W ∧ BigOwn n0 W (.agg #[.int .i64 b.roots, .slice d1 b.nodes.length e1, .slice d2 b.sites.length e2, .int .i64 b.edges, .slice ua outer.length uc, .slice d4 b.inner.length e4]) ⟨b.roots, progN (fun _ _ => outF b names outer) b.nodes k 0, b.sites, b.edges, outer, b.inner⟩ bs) (fun i _ => b.nodes.length - (intOf i).toNat)
  case atStart => exact ⟨0, Nat.zero_le _, rfl, Only.refl _ _, hB⟩
  case round =>
    clear hB
    obtain ⟨k, hk, rfl, oW, hB⟩ := hrel
    by_cases hkl : k < b.nodes.length
    · obtain ⟨x, hx⟩ := getElem?_of_lt hkl
      obtain ⟨g, vl, rfl, _⟩ := hB.nodeAt (progN_get0 (f := (fun _ _ => outF b names outer)) hx)
      have BP0 := BP.keep (oW.block _ BP.lt (fun h => (hbs.out _ h).2 rfl))
      have q := BP0.cell
      have HXM : Hid (x ∈ b.nodes) := List.mem_of_getElem? hx
      have hxl := HD.out.links x HXM.out
      have HX := Lib.hid hx
      clear hx
      go_wp2_with fail
      clear q BP0
      obtain ⟨wa, rfl⟩ : ∃ W, W = wr := ⟨_, rfl⟩
      go_loopw [9] (fun i W => ∃ j : Nat, j ≤ x.links.length ∧ i = .int .i64 j ∧ Only bs W7 W ∧ BigOwn n0 W (.agg #[.int .i64 b.roots, .slice (some ⟨g, 0, none⟩) b.nodes.length e1, .slice d2 b.sites.length e2, .int .i64 b.edges, .slice ua outer.length uc, .slice d4 b.inner.length e4]) ⟨b.roots, progN (fun _ _ => outF b names outer) b.nodes k j, b.sites, b.edges, outer, b.inner⟩ bs) (fun i _ => x.links.length - (intOf i).toNat)
      case atStart => exact ⟨0, Nat.zero_le _, rfl, oW, hB⟩
      case round =>
        clear hB oW
        obtain ⟨j, hj, rfl, oI, hB⟩ := hrel
        have BPw := BP.keep (oI.block _ BP.lt (fun h => (hbs.out _ h).2 rfl))
        have BAw := BA.keep (oI.block _ BA.lt (fun h => by have := (hbs.out _ h).1; omega))
        have BRw := BR.keep (oI.block _ BR.lt (fun h => by have := (hbs.out _ h).1; omega))
        have hbw : Below w.heap.size w wr := hb.trans (oI.below (B := w.heap.size) (fun p hp => by have := (hbs.out p hp).1; omega) (by have := hb.size; omega))
        have hOUT := HOUT.out.below hbw
        obtain ⟨g', vl, e', hgb, hfn, hxc, hxp, hvl, hc0, hc1, hc2'⟩ := hB.nodeAt (progN_get (f := (fun _ _ => outF b names outer)) HX.out)
        obtain rfl : g = g' := by simpa using e'
        obtain ⟨ya, yc, rfl, _, _, H6⟩ := hvl.open
        have hc2 : wr.cell? ⟨g, k * 3 + 2, none⟩ = some (.slice ya x.links.length yc) := by rw [← progI_len (fun _ => outF b names outer) x.links j]; exact hc2'
        have q := BPw.cell
        clear hc2' hvl e'
        by_cases hjl : j < x.links.length
        · obtain ⟨yl, hy⟩ := getElem?_of_lt hjl
          obtain ⟨hyI, gl, ol, rfl, hcy⟩ := H6 j yl (progI_get (f := (fun _ => outF b names outer)) hy)
          obtain ⟨⟨rfl, hmm, hglb, hglg⟩, hcy', hfz, hzz⟩ := hB.lnk hN (progN_get (f := (fun _ _ => outF b names outer)) HX.out) hc2 (progI_get (f := (fun _ => outF b names outer)) hy)
          have HY := Lib.hid hy
          have HYM : Hid (yl ∈ x.links) := List.mem_of_getElem? hy
          have hyb := HD.out.lnk x HXM.out yl HYM.out
          have hcy := hcy'
          clear hy hmm hfz hzz H6 hcy'
          have qa := BAw.cell
          by_cases hcd : ¬ b.edges ≤ yl
          · have HFY : Hid (outF b names outer yl = yl) := by show _ = _; unfold outF; rw [if_pos (by omega)]
            go_wp2_with fail
            go_roundw
            case rel => exact ⟨j + 1, by omega, by go_num, oI, by rw [progN_same HX.out HY.out HFY.out]; exact hB⟩
            case measure => simp [intOf]; omega
          · have hcd : b.edges ≤ yl := Classical.not_not.1 hcd
            obtain ⟨m, hm⟩ : ∃ m : Nat, yl - b.edges = m := ⟨(yl - b.edges).toNat, by omega⟩
            have hml : m < names.length := by have := HNL.out; omega
            obtain ⟨nm, hnm⟩ := getElem?_of_lt hml
            obtain ⟨_, nb, no, rfl, hcn0⟩ := HNM.out m nm hnm
            have hcn := (hbw.cell (World.block_lt_of_cell? w _ hcn0)).trans hcn0
            have HFX : Hid (outF b names outer yl = b.edges + Lib.idxOfS outer nm) := by show _ = _; unfold outF; rw [if_neg (by omega), hm, Int.toNat_natCast, List.getD_eq_getElem?_getD, hnm]; rfl
            have hix := idx_bd outer nm
            have hw1 : IntKind.i64.wrap (yl - b.edges) = (m : Int) := by rw [Go.IntWalk.i64_in _ (by omega)]; exact hm
            have hw2 : IntKind.i64.wrap (b.edges + Lib.idxOfS outer nm) = b.edges + Lib.idxOfS outer nm := Go.IntWalk.i64_in _ (by omega)
            have hw3 : yl - b.edges = (m : Int) := hm
            clear hnm hcn0
            go_wp2_with fail
            clear q qa
            have gA3 := fun y => gr_cell (w := wr) (BAw.cell 3) y
            have gP1 := fun y => gr_cell (w := wr) (BPw.cell 1) y
            have gc2 := fun y => gr_cell (w := wr) hc2 y
            have gnm := fun y => gr_cell (w := wr) hcn y
            refine rg_region [0, 1, 2, 3, 4, 5, 6, 7, 8, 9, 10, 11, 12, 13, 14, 15, 16, 17, 18, 19] [20] (lo := (.cons _ .nil)) (by rfl) (tAt 17 (eVal (.int .i64 (Lib.idxOfS outer nm))) tNil) (by kernel_rfl) (by rfl) (by kernel_rfl) ?_
            refine rg_quiet anti_end [0, 1, 2, 3, 4, 5, 6, 7, 8, 9, 10, 11, 12, 13, 14, 15, 16] [17, 18, 19] (lo := (.cons _ (.cons _ (.cons _ (.cons _ (.cons _ (.cons _ (.cons _ (.cons _ (.cons _ (.cons _ (.cons _ (.cons _ (.cons _ (.cons _ (.cons _ (.cons _ (.cons _ .nil)))))))))))))))))) (by rfl) (by kernel_rfl) ?_
            repeat (go_big_quiet_step (fail))
            refine wpQuiet_nil ?_
            refine rg_call 17 rfl rfl 117 #[.slice oa outer.length oc, .string nm] ?_ ?_ ?_
            · intro w; simp [go_sem]
            · rintro w' ⟨y, rfl⟩ hd
              refine (l2At_ct _ outer nm _ (hOUT.below (gr_below _ _))).mono ?_
              rintro e w3 ⟨rfl, rfl⟩
              exact ⟨_, rfl, Below.refl _ _, rfl⟩
            intro v hv
            obtain rfl : v = .int .i64 (Lib.idxOfS outer nm) := hv
            simp only [Act.put, List.setIfInBounds_toArray, List.set_cons_zero, List.set_cons_succ]
            refine rg_quiet anti_end [18, 19] [] (lo := (.cons _ (.cons _ .nil))) (by rfl) (by kernel_rfl) ?_
            repeat (go_big_quiet_step (fail))
            refine wpQuiet_nil ?_
            intro w4 U hb4 hF
            have hlt := hB.lt
            have hB4 := hB.keep (keep_below hb4 (fun p hp => (hlt p hp).2))
            have hc24 := (hb4.cell (World.block_lt_of_cell? wr _ hc2)).trans hc2
            obtain ⟨hmm, hcy4, hfr4, hst⟩ := hB4.lnk hN (progN_get (f := (fun _ _ => outF b names outer)) HX.out) hc24 (progI_get (f := (fun _ => outF b names outer)) HY.out)
            have hst := hst (b.edges + Lib.idxOfS outer nm) (by rw [← HFX.out]; exact HFI.out yl (.inl ⟨x, HXM.out, HYM.out⟩))
            have HST := Lib.hid hst
            have oI4 := oI.more hb4
            clear hst hB hB4 hF oI hlt hc0 hc1 hc2 hc24 hmm hcy
            go_wp2_with fail
            go_roundw
            case rel => exact ⟨j + 1, by omega, by go_num, oI4.setCell hglb _, by rw [progN_set HX.out HY.out, HFX.out]; exact HST.out⟩
            case measure => simp [intOf]; omega
        · have e : j = x.links.length := by omega
          subst e
          rw [progN_next HX.out] at hB
          clear H6
          go_wp2_with fail
          go_roundw
          case rel => exact ⟨k + 1, by omega, by go_num, oI, hB⟩
          case measure => simp [intOf]; omega
    · have e : k = b.nodes.length := by omega
      subst e
      rw [progN_full, allN_map] at hB
      have BP0 := BP.keep (oW.block _ BP.lt (fun h => (hbs.out _ h).2 rfl))
      have q := BP0.cell
      go_wp2_with fail
      clear q BP0
      obtain ⟨NS, hNS⟩ : ∃ l, l = (b.nodes.map fun n => { n with links := n.links.map (outF b names outer) }) := ⟨_, rfl⟩
      rw [← hNS] at hB
      have HNS := Lib.hid hNS
      obtain ⟨wa, rfl⟩ : ∃ W, W = wr := ⟨_, rfl⟩
      have hB0 : BigOwn n0 wa (.agg #[.int .i64 b.roots, .slice d1 b.nodes.length e1, .slice d2 b.sites.length e2, .int .i64 b.edges, .slice ua outer.length uc, .slice d4 b.inner.length e4]) ⟨b.roots, NS, b.sites, b.edges, outer, progW (fun _ => outF b names outer) b.inner 0⟩ bs := by rw [progW_zero]; exact hB
      clear hB hNS
      go_loopw [11] (fun i W => ∃ j : Nat, j ≤ b.inner.length ∧ i = .int .i64 j ∧ Only bs W7 W ∧ BigOwn n0 W (.agg #[.int .i64 b.roots, .slice d1 b.nodes.length e1, .slice d2 b.sites.length e2, .int .i64 b.edges, .slice ua outer.length uc, .slice d4 b.inner.length e4]) ⟨b.roots, NS, b.sites, b.edges, outer, progW (fun _ => outF b names outer) b.inner j⟩ bs) (fun i _ => b.inner.length - (intOf i).toNat)
      case atStart => exact ⟨0, Nat.zero_le _, rfl, oW, hB0⟩
      case round =>
        clear hB0 oW
        obtain ⟨j, hj, rfl, oI, hB⟩ := hrel
        have BPw := BP.keep (oI.block _ BP.lt (fun h => (hbs.out _ h).2 rfl))
        have BAw := BA.keep (oI.block _ BA.lt (fun h => by have := (hbs.out _ h).1; omega))
        have BRw := BR.keep (oI.block _ BR.lt (fun h => by have := (hbs.out _ h).1; omega))
        have hbw : Below w.heap.size w wr := hb.trans (oI.below (B := w.heap.size) (fun p hp => by have := (hbs.out p hp).1; omega) (by have := hb.size; omega))
        have hOUT := HOUT.out.below hbw
        have q := BPw.cell
        by_cases hjl : j < b.inner.length
        · obtain ⟨x, hx⟩ := getElem?_of_lt hjl
          obtain ⟨g, rfl, hgb, hc0, hc1, hfz, hzz⟩ := hB.wire hN (progW_get (f := (fun _ => outF b names outer)) hx)
          have HXM : Hid (x ∈ b.inner) := List.mem_of_getElem? hx
          have hyb := HD.out.wire x HXM.out
          have HX := Lib.hid hx
          clear hx hfz hzz
          have qa := BAw.cell
          by_cases hcd : ¬ b.edges ≤ x.link
          · have HFY : Hid (outF b names outer x.link = x.link) := by show _ = _; unfold outF; rw [if_pos (by omega)]
            go_wp2_with fail
            go_roundw
            case rel => exact ⟨j + 1, by omega, by go_num, oI, by rw [progW_same HX.out HFY.out]; exact hB⟩
            case measure => simp [intOf]; omega
          · have hcd : b.edges ≤ x.link := Classical.not_not.1 hcd
            obtain ⟨m, hm⟩ : ∃ m : Nat, x.link - b.edges = m := ⟨(x.link - b.edges).toNat, by omega⟩
            have hml : m < names.length := by have := HNL.out; omega
            obtain ⟨nm, hnm⟩ := getElem?_of_lt hml
            obtain ⟨_, nb, no, rfl, hcn0⟩ := HNM.out m nm hnm
            have hcn := (hbw.cell (World.block_lt_of_cell? w _ hcn0)).trans hcn0
            have HFX : Hid (outF b names outer x.link = b.edges + Lib.idxOfS outer nm) := by show _ = _; unfold outF; rw [if_neg (by omega), hm, Int.toNat_natCast, List.getD_eq_getElem?_getD, hnm]; rfl
            have hix := idx_bd outer nm
            have hw1 : IntKind.i64.wrap (x.link - b.edges) = (m : Int) := by rw [Go.IntWalk.i64_in _ (by omega)]; exact hm
            have hw2 : IntKind.i64.wrap (b.edges + Lib.idxOfS outer nm) = b.edges + Lib.idxOfS outer nm := Go.IntWalk.i64_in _ (by omega)
            have hw3 : x.link - b.edges = (m : Int) := hm
            clear hnm hcn0
            go_wp2_with fail
            clear q qa
            have gA3 := fun y => gr_cell (w := wr) (BAw.cell 3) y
            have gP5 := fun y => gr_cell (w := wr) (BPw.cell 5) y
            have gnm := fun y => gr_cell (w := wr) hcn y
            refine rg_region [0, 1, 2, 3, 4, 5, 6, 7, 8, 9, 10, 11, 12, 13, 14, 15, 16] [17] (lo := (.cons _ .nil)) (by rfl) (tAt 13 (eVal (.int .i64 (Lib.idxOfS outer nm))) tNil) (by kernel_rfl) (by rfl) (by kernel_rfl) ?_
            refine rg_quiet anti_end [0, 1, 2, 3, 4, 5, 6, 7, 8, 9, 10, 11, 12] [13, 14, 15, 16] (lo := (.cons _ (.cons _ (.cons _ (.cons _ (.cons _ (.cons _ (.cons _ (.cons _ (.cons _ (.cons _ (.cons _ (.cons _ (.cons _ .nil)))))))))))))) (by rfl) (by kernel_rfl) ?_
            repeat (go_big_quiet_step (fail))
            refine wpQuiet_nil ?_
            refine rg_call 13 rfl rfl 117 #[.slice oa outer.length oc, .string nm] ?_ ?_ ?_
            · intro w; simp [go_sem]
            · rintro w' ⟨y, rfl⟩ hd
              refine (l2At_ct _ outer nm _ (hOUT.below (gr_below _ _))).mono ?_
              rintro e w3 ⟨rfl, rfl⟩
              exact ⟨_, rfl, Below.refl _ _, rfl⟩
            intro v hv
            obtain rfl : v = .int .i64 (Lib.idxOfS outer nm) := hv
            simp only [Act.put, List.setIfInBounds_toArray, List.set_cons_zero, List.set_cons_succ]
            refine rg_quiet anti_end [14, 15, 16] [] (lo := (.cons _ (.cons _ (.cons _ .nil)))) (by rfl) (by kernel_rfl) ?_
            repeat (go_big_quiet_step (fail))
            refine wpQuiet_nil ?_
            intro w4 U hb4 hF
            have hlt := hB.lt
            have hB4 := hB.keep (keep_below hb4 (fun p hp => (hlt p hp).2))
            obtain ⟨g', e', _, hc5, hd5, hfr5, hst⟩ := hB4.wire hN (progW_get (f := (fun _ => outF b names outer)) HX.out)
            obtain rfl : g = g' := by simpa using e'
            have hst := hst (b.edges + Lib.idxOfS outer nm) (by rw [← HFX.out]; exact HFI.out x.link (.inr ⟨x, HXM.out, rfl⟩))
            have HST := Lib.hid hst
            have oI4 := oI.more hb4
            clear hst hB hB4 hF oI hlt hc0 hc1 e'
            go_wp2_with fail
            go_roundw
            case rel => exact ⟨j + 1, by omega, by go_num, oI4.setCell hgb _, by rw [progW_set HX.out, HFX.out]; exact HST.out⟩
            case measure => simp [intOf]; omega
        · have e : j = b.inner.length := by omega
          subst e
          rw [progW_full, allW_map, HNS.out] at hB
          have q2 := BRw.cell
          have f2 := BRw.free
          go_wp2_with fail
          refine bodyPost_ret (v := .agg #[.int .i64 b.roots, .slice d1 b.nodes.length e1, .slice d2 b.sites.length e2, .int .i64 b.edges, .slice ua outer.length uc, .slice d4 b.inner.length e4]) (by simp [results, Tryz.results119, go_sem, q2]) rfl ⟨_, bs, rfl, (fill6 hB (by omega) _ _ _ _ _ _).mono (by omega), hN, fill6b hbw (by omega) _ _ _ _ _ _⟩
end Go.Proofs.YthbdmcobpcoajaaGreatDoor
