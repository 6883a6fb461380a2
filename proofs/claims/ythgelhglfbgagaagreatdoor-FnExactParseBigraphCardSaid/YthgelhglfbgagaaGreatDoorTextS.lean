/- The text of a bigraph: the reference's. -/
import Derived.Test.YthgelhglfbgagaaGreatDoorTextP
import Derived.Test.YthgelhglfbgagaaGreatDoorG2
import Derived.Test.YthgelhglfbgagaaGreatDoorGoodS
namespace Go.Proofs.YthgelhglfbgagaaGreatDoor
open Go Go.RowKit Go.BigFrame
set_option maxRecDepth 100000 in
set_option maxHeartbeats 2000000 in
theorem l2Words_ct (v : Value) (l : List Int) (w : World) (h : IntsAt w v l) (hx : ∀ x ∈ l, -999999 ≤ x ∧ x ≤ 999999) (hl : l.length ≤ 1000) : Calls Tryz.prog 80 #[v] w fun e w' => e = .returned (.string (wordsN l l.length)) ∧ Below w.heap.size w w' := by
  obtain ⟨_, _, rfl, _, _, H⟩ := h.open
  have H' := Lib.hid H
  have HX := Lib.hid hx
  clear h hx H
  go_enter Tryz.func80, Tryz.ntmps80
  go_wp2_with fail
  go_loopw [4, 3] (fun i s W => ∃ k : Nat, k ≤ l.length ∧ i = .int .i64 k ∧ s = .string (wordsN l k) ∧ Below w.heap.size w W) (fun i _ _ => l.length - (intOf i).toNat)
  case atStart => exact ⟨0, Nat.zero_le _, rfl, rfl, Below.refl _ _⟩
  case round =>
    obtain ⟨k, hk, rfl, rfl, hb⟩ := hrel
    by_cases hkl : k < l.length
    · obtain ⟨y, hy⟩ := getElem?_of_lt hkl
      obtain ⟨_, ob, oo, rfl, hc⟩ := H'.out k y hy
      have hc' := (hb.cell (World.block_lt_of_cell? w _ hc)).trans hc
      have HW := Lib.hid (wordsN_succ hy)
      have hyb := HX.out y (List.mem_of_getElem? hy)
      have hz1 := wordsN_size HX.out k hk
      have hz2 := decZ_size hyb.1 hyb.2
      clear hy hc
      go_wp2_with fail
      refine (l1NumZ_ct y hyb.1 hyb.2 _).mono ?_
      rintro e w2 ⟨rfl, hb2⟩
      have hb := bthen hb hb2
      clear hc' hb2
      go_wp2_with fail
      go_roundw
      case rel => exact ⟨k + 1, by omega, by go_num, by rw [HW.out]; rfl, hb⟩
      case measure => simp [intOf]; omega
    · have e : k = l.length := by omega
      subst e
      go_wp2_with fail
      go_ret
      exact ⟨rfl, hb⟩
set_option maxRecDepth 100000 in
set_option maxHeartbeats 8000000 in
theorem l2Text_ct (vs v : Value) (sig : List Ctl) (b : Big) (w : World) (h : Ctx w vs v sig b) (hG : Good sig b) : Calls Tryz.prog 26 #[vs, v] w fun e w' => e = .returned (.string (textL sig b)) ∧ Below w.heap.size w w' := by
  obtain ⟨a1, c1, a2, c2, a3, c3, a4, c4, rfl⟩ := h.big.shape
  have hh := h.big.parts
  obtain ⟨_, _, _, _, _, _, _, _, e0, h1, h2, h3, h4, _, _⟩ := hh
  simp only [Value.agg.injEq, Array.mk.injEq, List.cons.injEq, and_true, true_and, Value.slice.injEq] at e0
  obtain ⟨⟨rfl, rfl⟩, ⟨rfl, rfl⟩, ⟨rfl, rfl⟩, rfl, rfl⟩ := e0
  obtain ⟨sa, sc, rfl, _, _, Hs⟩ := h.sig.open
  have HG := Lib.hid hG
  have hD := hG.bds
  have HD := Lib.hid hD
  have HNI := Lib.hid h1
  have HSI := Lib.hid h2
  have HOI := Lib.hid h3
  have HWI := Lib.hid h4
  have HSG := Lib.hid h.sig
  have hnl := hD.nodes
  have hol := hD.outer
  have hil := hD.inner
  have HSB : Hid (∀ x ∈ b.sites, -999999 ≤ x ∧ x ≤ 999999) := fun x hx => by have := hD.site x hx; have := hD.roots; omega
  have HEB : Hid (-999999 ≤ b.edges ∧ b.edges ≤ 999999) := by have := hD.edges; show _ ∧ _; omega
  have HRB : Hid (-999999 ≤ b.roots ∧ b.roots ≤ 999999) := by have := hD.roots; show _ ∧ _; omega
  obtain ⟨W0, hW0⟩ : ∃ W, W = w.alloc (.cells #[.int .i64 b.roots, .slice a1 b.nodes.length c1, .slice a2 b.sites.length c2, .int .i64 b.edges, .slice a3 b.outer.length c3, .slice a4 b.inner.length c4] 29) := ⟨_, rfl⟩
  have hA : Below w.heap.size w W0 := by rw [hW0]; exact balloc _ _
  have BA : Box W0 w.heap.size #[.int .i64 b.roots, .slice a1 b.nodes.length c1, .slice a2 b.sites.length c2, .int .i64 b.edges, .slice a3 b.outer.length c3, .slice a4 b.inner.length c4] 29 := by rw [hW0]; exact Box.new _ _ _
  have hsl := hD.sites
  have hrz := decZ_size HRB.out.1 HRB.out.2
  have hez := decZ_size HEB.out.1 HEB.out.2
  have hsz := wordsN_size HSB.out b.sites.length (Nat.le_refl _)
  have hnz0 := nodesT_size hG b.nodes.length (Nat.le_refl _)
  have hoz0 := outT_size hG b.outer.length (Nat.le_refl _)
  clear h1 h2 h3 h4 h hG hD Hs
  go_enter Tryz.func26, Tryz.ntmps26
  go_wp2_with fail
  rw [← hW0]
  clear hW0
  refine (l1NumZ_ct b.roots HRB.out.1 HRB.out.2 _).mono ?_
  rintro e w1 ⟨rfl, hb1⟩
  have BA := BA.below hb1
  have hb := bthen hA hb1
  clear hA hb1
  go_wp2_with fail
  go_loopw [6, 5, 7] (fun i s _ W => ∃ k : Nat, k ≤ b.nodes.length ∧ i = .int .i64 k ∧ s = .string (nodesT sig b k) ∧ Below w.heap.size w W ∧ Box W w.heap.size #[.int .i64 b.roots, .slice a1 b.nodes.length c1, .slice a2 b.sites.length c2, .int .i64 b.edges, .slice a3 b.outer.length c3, .slice a4 b.inner.length c4] 29) (fun i _ _ _ => b.nodes.length - (intOf i).toNat)
  case atStart => exact ⟨0, Nat.zero_le _, rfl, rfl, hb, BA⟩
  case round =>
    clear hb BA
    obtain ⟨k, hk, rfl, rfl, hb, BA⟩ := hrel
    by_cases hkl : k < b.nodes.length
    · obtain ⟨x, hx⟩ := getElem?_of_lt hkl
      obtain ⟨xc, xp, xl⟩ := x
      obtain ⟨_, _, en, _, _, Hn⟩ := (HNI.out.below hb).open
      obtain ⟨rfl, rfl⟩ := (by simpa using en : a1 = _ ∧ c1 = _)
      obtain ⟨_, _, nb, no, vl, rfl, hvl, hc0, hc1, hc2⟩ := Hn k _ hx
      obtain ⟨ya, yc, rfl, _, _, _⟩ := hvl.open
      have HX := Lib.hid hx
      have hxm := List.mem_of_getElem? hx
      have hnc := node_ctl (HG.out.node k _ hx)
      have HXP : Hid (-999999 ≤ xp ∧ xp ≤ 999999) := by have h1 := HD.out.par _ hxm; have h2 := HD.out.roots; have h3 : -b.roots ≤ xp ∧ xp < (b.nodes.length : Int) := h1; show _ ∧ _; omega
      have HXL : Hid (∀ y ∈ xl, -999999 ≤ y ∧ y ≤ 999999) := fun y hy => by have h1 : 0 ≤ y ∧ y < b.edges + b.outer.length := HD.out.lnk _ hxm y hy; have h2 := HD.out.edges; omega
      have hnc : 0 ≤ xc ∧ xc ≤ (sig.length : Int) - 1 := hnc
      obtain ⟨cn, rfl⟩ : ∃ n : Nat, xc = n := ⟨xc.toNat, by omega⟩
      obtain ⟨cc, hcc⟩ := getElem?_of_lt (show cn < sig.length by omega)
      obtain ⟨_, _, es, _, _, Hs⟩ := (HSG.out.below hb).open
      obtain ⟨rfl, rfl⟩ := (by simpa using es : sa = _ ∧ sc = _)
      obtain ⟨_, _, _, sb, so, rfl, hs0, _, _⟩ := Hs cn cc hcc
      have HCN : Hid (ctlN sig (cn : Int) = cc.name) := by show _ = _; unfold ctlN; rw [Int.toNat_natCast, hcc]
      have hcl : cn < sig.length := by omega
      have hxl3 : xl.length ≤ 3 := HD.out.links _ hxm
      have hcz : cc.name.size ≤ 4 := by have := HG.out.ctlN_size hxm; rwa [HCN.out] at this
      have hpz := decZ_size HXP.out.1 HXP.out.2
      have hwz := wordsN_size HXL.out xl.length (Nat.le_refl _)
      have hnz := nodesT_size HG.out k hk
      have q := BA.cell
      clear hx hxm hcc Hs Hn es en hnc
      go_wp2_with fail
      clear q
      obtain ⟨wa, rfl⟩ : ∃ W, W = wr := ⟨_, rfl⟩
      obtain ⟨W8, hW8⟩ : ∃ W, W = wa.alloc (.cells #[.int .i64 (cn : Int), .int .i64 xp, .slice ya xl.length yc] 57) := ⟨_, rfl⟩
      first | rw [← hW8] | fail "world8"
      have bx : Below wa.heap.size wa W8 := by rw [hW8]; exact balloc _ _
      have BX : Box W8 wa.heap.size #[.int .i64 (cn : Int), .int .i64 xp, .slice ya xl.length yc] 57 := by rw [hW8]; exact Box.new _ _ _
      have hs8 := (bx.cell (World.block_lt_of_cell? wa _ hs0)).trans hs0
      have hvl8 : IntsAt W8 (.slice ya xl.length yc) xl := hvl.below bx
      have hb8 := bthen hb bx
      have BA8 := BA.below bx
      clear hW8 bx hc0 hc1 hc2 hs0 hvl
      have gX0 := fun y => gr_cell (w := W8) (BX.cell 0) y
      have gX1 := fun y => gr_cell (w := W8) (BX.cell 1) y
      have gX2 := fun y => gr_cell (w := W8) (BX.cell 2) y
      have gs := fun y => gr_cell (w := W8) hs8 y
      refine rg_region [0, 1, 2, 3, 4, 5, 6, 7, 8, 9, 10, 11, 12, 13, 14, 15, 16, 17] [18] (lo := (.cons _ .nil)) (by rfl) (tAt 11 (eVal (.string (decZ xp))) (tAt 15 (eVal (.string (wordsN xl xl.length))) tNil)) (by kernel_rfl) (by rfl) (by kernel_rfl) ?_
      refine rg_quiet anti_end [0, 1, 2, 3, 4, 5, 6, 7, 8, 9, 10] [11, 12, 13, 14, 15, 16, 17] (lo := (.cons _ (.cons _ (.cons _ (.cons _ (.cons _ (.cons _ (.cons _ (.cons _ (.cons _ (.cons _ (.cons _ .nil)))))))))))) (by rfl) (by kernel_rfl) ?_
      repeat (go_big_quiet_step (fail))
      refine wpQuiet_nil ?_
      refine rg_call 11 rfl rfl 72 #[.int .i64 xp] ?_ ?_ ?_
      · intro w; first | (simp [go_sem]; done) | (simp [go_sem]; rfl) | rfl
      · rintro w' ⟨y, rfl⟩ hd
        refine (l1NumZ_ct _ HXP.out.1 HXP.out.2 _).mono ?_
        rintro e w3 ⟨rfl, bb⟩
        exact ⟨_, rfl, bb, rfl⟩
      intro v hv
      obtain rfl : v = .string (decZ xp) := hv
      simp only [Act.put, List.setIfInBounds_toArray, List.set_cons_zero, List.set_cons_succ]
      refine rg_quiet anti_end [12, 13, 14] [15, 16, 17] (lo := (.cons _ (.cons _ (.cons _ .nil)))) (by rfl) (by kernel_rfl) ?_
      repeat (go_big_quiet_step (fail))
      refine wpQuiet_nil ?_
      refine rg_call 15 rfl rfl 80 #[.slice ya xl.length yc] ?_ ?_ ?_
      · intro w; first | (simp [go_sem]; done) | (simp [go_sem]; rfl) | rfl
      · rintro w' ⟨y, rfl⟩ hd
        refine (l2Words_ct _ xl _ (hvl8.below (gr_below _ _)) HXL.out (by omega)).mono ?_
        rintro e w3 ⟨rfl, bb⟩
        exact ⟨_, rfl, bb, rfl⟩
      intro v hv
      obtain rfl : v = .string (wordsN xl xl.length) := hv
      simp only [Act.put, List.setIfInBounds_toArray, List.set_cons_zero, List.set_cons_succ]
      refine rg_quiet anti_end [16, 17] [] (lo := (.cons _ (.cons _ .nil))) (by rfl) (by kernel_rfl) ?_
      repeat (go_big_quiet_step (fail))
      refine wpQuiet_nil ?_
      intro w4 U hb4 hF
      clear hF gX0 gX1 gX2 gs hs8 hvl8
      have BA4 := BA8.below hb4
      have hb4' := bthen hb8 hb4
      clear hb8 BA8 hb4
      go_wp2_with fail
      go_roundw
      case rel => exact ⟨k + 1, by omega, by go_num, by rw [nodesT_succ HX.out, HCN.out]; rfl, hb4', BA4⟩
      case measure => simp [intOf]; omega
    · have e : k = b.nodes.length := by omega
      subst e
      have q := BA.cell
      go_wp2_with fail
      clear q
      have gA2 := fun y => gr_cell (w := wr) (BA.cell 2) y
      have gA3 := fun y => gr_cell (w := wr) (BA.cell 3) y
      refine rg_region [0, 1, 2, 3, 4, 5, 6, 7, 8, 9, 10, 11] [12] (lo := (.cons _ .nil)) (by rfl) (tAt 4 (eVal (.string (wordsN b.sites b.sites.length))) (tAt 9 (eVal (.string (decZ b.edges))) tNil)) (by kernel_rfl) (by rfl) (by kernel_rfl) ?_
      refine rg_quiet anti_end [0, 1, 2, 3] [4, 5, 6, 7, 8, 9, 10, 11] (lo := (.cons _ (.cons _ (.cons _ (.cons _ .nil))))) (by rfl) (by kernel_rfl) ?_
      repeat (go_big_quiet_step (fail))
      refine wpQuiet_nil ?_
      refine rg_call 4 rfl rfl 80 #[.slice a2 b.sites.length c2] ?_ ?_ ?_
      · intro w; first | (simp [go_sem]; done) | (simp [go_sem]; rfl) | rfl
      · rintro w' ⟨y, rfl⟩ hd
        refine (l2Words_ct _ b.sites _ (HSI.out.below (bthen hb (gr_below _ _))) HSB.out (by omega)).mono ?_
        rintro e w3 ⟨rfl, bb⟩
        exact ⟨_, rfl, bb, rfl⟩
      intro v hv
      obtain rfl : v = .string (wordsN b.sites b.sites.length) := hv
      simp only [Act.put, List.setIfInBounds_toArray, List.set_cons_zero, List.set_cons_succ]
      refine rg_quiet anti_end [5, 6, 7, 8] [9, 10, 11] (lo := (.cons _ (.cons _ (.cons _ (.cons _ .nil))))) (by rfl) (by kernel_rfl) ?_
      repeat (go_big_quiet_step (fail))
      refine wpQuiet_nil ?_
      refine rg_call 9 rfl rfl 72 #[.int .i64 b.edges] ?_ ?_ ?_
      · intro w; first | (simp [go_sem]; done) | (simp [go_sem]; rfl) | rfl
      · rintro w' ⟨y, rfl⟩ hd
        refine (l1NumZ_ct _ HEB.out.1 HEB.out.2 _).mono ?_
        rintro e w3 ⟨rfl, bb⟩
        exact ⟨_, rfl, bb, rfl⟩
      intro v hv
      obtain rfl : v = .string (decZ b.edges) := hv
      simp only [Act.put, List.setIfInBounds_toArray, List.set_cons_zero, List.set_cons_succ]
      refine rg_quiet anti_end [10, 11] [] (lo := (.cons _ (.cons _ .nil))) (by rfl) (by kernel_rfl) ?_
      repeat (go_big_quiet_step (fail))
      refine wpQuiet_nil ?_
      intro w4 U hb4 hF
      clear hF gA2 gA3
      have BA := BA.below hb4
      have hb := bthen hb hb4
      clear hb4
      go_wp2_with fail
      go_loopw [8, 5] (fun i s W => ∃ k : Nat, k ≤ b.outer.length ∧ i = .int .i64 k ∧ s = .string (outT sig b k) ∧ Below w.heap.size w W ∧ Box W w.heap.size #[.int .i64 b.roots, .slice a1 b.nodes.length c1, .slice a2 b.sites.length c2, .int .i64 b.edges, .slice a3 b.outer.length c3, .slice a4 b.inner.length c4] 29) (fun i _ _ => b.outer.length - (intOf i).toNat)
      case atStart => exact ⟨0, Nat.zero_le _, rfl, rfl, hb, BA⟩
      case round =>
        clear hb BA
        obtain ⟨k, hk, rfl, rfl, hb, BA⟩ := hrel
        have q := BA.cell
        by_cases hkl : k < b.outer.length
        · obtain ⟨x, hx⟩ := getElem?_of_lt hkl
          obtain ⟨_, _, en, _, _, Hn⟩ := (HOI.out.below hb).open
          obtain ⟨rfl, rfl⟩ := (by simpa using en : a3 = _ ∧ c3 = _)
          obtain ⟨_, ob, oo, rfl, hc⟩ := Hn k x hx
          have HW := Lib.hid (outT_succ (sig := sig) hx)
          have hz1 := outT_size HG.out k hk
          have hz2 := (name_pos (HG.out.name (List.mem_of_getElem? hx))).2
          clear hx Hn en
          go_wp2_with fail
          go_roundw
          case rel => exact ⟨k + 1, by omega, by go_num, by rw [HW.out]; rfl, hb, BA⟩
          case measure => simp [intOf]; omega
        · have e : k = b.outer.length := by omega
          subst e
          go_wp2_with fail
          clear q
          go_loopw [9, 5] (fun i s W => ∃ k : Nat, k ≤ b.inner.length ∧ i = .int .i64 k ∧ s = .string (inT sig b k) ∧ Below w.heap.size w W ∧ Box W w.heap.size #[.int .i64 b.roots, .slice a1 b.nodes.length c1, .slice a2 b.sites.length c2, .int .i64 b.edges, .slice a3 b.outer.length c3, .slice a4 b.inner.length c4] 29) (fun i _ _ => b.inner.length - (intOf i).toNat)
          case atStart => exact ⟨0, Nat.zero_le _, rfl, rfl, hb, BA⟩
          case round =>
            clear hb BA
            obtain ⟨k, hk, rfl, rfl, hb, BA⟩ := hrel
            have q := BA.cell
            by_cases hkl : k < b.inner.length
            · obtain ⟨x, hx⟩ := getElem?_of_lt hkl
              obtain ⟨_, _, en, _, _, Hn⟩ := (HWI.out.below hb).open
              obtain ⟨rfl, rfl⟩ := (by simpa using en : a4 = _ ∧ c4 = _)
              obtain ⟨_, _, ob, oo, rfl, hc0, hc1⟩ := Hn k x hx
              have HW := Lib.hid (inT_succ (sig := sig) hx)
              have hz1 := inT_size HG.out k hk
              have hz2 := (name_pos (HG.out.nameI (List.mem_of_getElem? hx))).2
              have HXB : Hid (-999999 ≤ x.link ∧ x.link ≤ 999999) := by have h1 := HD.out.wire x (List.mem_of_getElem? hx); have h2 := HD.out.edges; show _ ∧ _; omega
              have hz3 := decZ_size HXB.out.1 HXB.out.2
              clear hx Hn en
              go_wp2_with fail
              clear q
              have gA5 := fun y => gr_cell (w := wr) (BA.cell 5) y
              have g0 := fun y => gr_cell (w := wr) hc0 y
              have g1 := fun y => gr_cell (w := wr) hc1 y
              refine rg_region [0, 1, 2, 3, 4, 5, 6, 7, 8, 9, 10, 11, 12, 13, 14, 15, 16, 17] [18] (lo := (.cons _ .nil)) (by rfl) (tAt 16 (eVal (.string (decZ x.link))) tNil) (by kernel_rfl) (by rfl) (by kernel_rfl) ?_
              refine rg_quiet anti_end [0, 1, 2, 3, 4, 5, 6, 7, 8, 9, 10, 11, 12, 13, 14, 15] [16, 17] (lo := (.cons _ (.cons _ (.cons _ (.cons _ (.cons _ (.cons _ (.cons _ (.cons _ (.cons _ (.cons _ (.cons _ (.cons _ (.cons _ (.cons _ (.cons _ (.cons _ .nil))))))))))))))))) (by rfl) (by kernel_rfl) ?_
              repeat (go_big_quiet_step (fail))
              refine wpQuiet_nil ?_
              refine rg_call 16 rfl rfl 72 #[.int .i64 x.link] ?_ ?_ ?_
              · intro w; first | (simp [go_sem]; done) | (simp [go_sem]; rfl) | rfl
              · rintro w' ⟨y, rfl⟩ hd
                refine (l1NumZ_ct _ HXB.out.1 HXB.out.2 _).mono ?_
                rintro e w3 ⟨rfl, bb⟩
                exact ⟨_, rfl, bb, rfl⟩
              intro v hv
              obtain rfl : v = .string (decZ x.link) := hv
              simp only [Act.put, List.setIfInBounds_toArray, List.set_cons_zero, List.set_cons_succ]
              refine rg_quiet anti_end [17] [] (lo := (.cons _ .nil)) (by rfl) (by kernel_rfl) ?_
              repeat (go_big_quiet_step (fail))
              refine wpQuiet_nil ?_
              intro w4 U hb4 hF
              clear hF gA5 g0 g1 hc0 hc1
              have BA := BA.below hb4
              have hb := bthen hb hb4
              clear hb4
              go_wp2_with fail
              go_roundw
              case rel => exact ⟨k + 1, by omega, by go_num, by rw [HW.out]; rfl, hb, BA⟩
              case measure => simp [intOf]; omega
            · have e : k = b.inner.length := by omega
              subst e
              go_wp2_with fail
              go_ret
              exact ⟨rfl, hb⟩
def txtR (sig : List Ctl) (b : Big) : ByteArray := if goodB sig b then textL sig b else ⟨#[]⟩
end Go.Proofs.YthgelhglfbgagaaGreatDoor
