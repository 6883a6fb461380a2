/- Another outer name: the reference's. -/
import Derived.Test.YthbdmcobpcoajaaGreatDoorRenoP
import Derived.Test.YthbdmcobpcoajaaGreatDoorSortS
namespace Go.Proofs.YthbdmcobpcoajaaGreatDoor
open Go Go.RowKit Go.BigFrame

theorem StrsOwn.slot {B n c : Nat} {a : Option Addr} {w : World} {l : List ByteArray} (h : StrsOwn B w (.slice a n c) l) {i : Nat} {x : ByteArray} (hi : l[i]? = some x) :
    ∃ g, a = some ⟨g, 0, none⟩ ∧ g ∈ blks (.slice a n c) ∧ w.cell? ⟨g, i, none⟩ = some (.string x) ∧ w.frozen? ⟨g, i, none⟩ = false ∧ ∀ p : ByteArray, p.size ≤ 1073741824 → StrsOwn B (w.setCell ⟨g, i, none⟩ (.string p)) (.slice a n c) (l.set i p) := by
  obtain ⟨h1, h2, h3⟩ := h
  have hil := (List.getElem?_eq_some_iff.1 hi).1
  have hn := h1.len
  have hn0 : 0 < n := by rw [hn]; simp [strRows]; omega
  obtain ⟨g, rfl, hg⟩ := h1.head hn0
  have hi2 : (strRows l)[i]? = some [.string x] := by simp [strRows, hi]
  refine ⟨g, rfl, by simp [hg], ?_, h1.free hn0 _, fun p hp => ⟨?_, by simpa using h2, ?_⟩⟩
  · have := h1.cellAt hi2 (j := 0) rfl
    simpa using this
  · have := RowOwn.store h1 hi2 (j := 0) (by omega) (.string p)
    rw [show strRows (l.set i p) = (strRows l).set i [.string p] by simp [strRows, List.map_set]]
    simpa using this
  · intro z hz
    rcases List.mem_or_eq_of_mem_set hz with h | rfl
    · exact h3 z h
    · exact hp
set_option maxRecDepth 100000 in
set_option maxHeartbeats 8000000 in
theorem specRenameOuter_ct (vs v : Value) (sig : List Ctl) (b : Big) (fr tt : ByteArray) (w : World) (h : Ctx w vs v sig b) (htz : tt.size ≤ 1073741824) : Calls Tryz.prog 43 #[vs, v, .string fr, .string tt] w (GivesBig (rnoP sig b fr tt) (rnoC sig b fr tt) w) := by
  obtain ⟨a1, c1, a2, c2, a3, c3, a4, c4, rfl⟩ := h.big.shape
  have hA := bthen (balloc w (.cells #[.int .i64 b.roots, .slice a1 b.nodes.length c1, .slice a2 b.sites.length c2, .int .i64 b.edges, .slice a3 b.outer.length c3, .slice a4 b.inner.length c4] 34)) (balloc (w.alloc (.cells #[.int .i64 b.roots, .slice a1 b.nodes.length c1, .slice a2 b.sites.length c2, .int .i64 b.edges, .slice a3 b.outer.length c3, .slice a4 b.inner.length c4] 34)) (.cells #[.int .i64 0, .slice none 0 0, .slice none 0 0, .int .i64 0, .slice none 0 0, .slice none 0 0] 34))
  obtain ⟨W0, hW0⟩ : ∃ W, W = (w.alloc (.cells #[.int .i64 b.roots, .slice a1 b.nodes.length c1, .slice a2 b.sites.length c2, .int .i64 b.edges, .slice a3 b.outer.length c3, .slice a4 b.inner.length c4] 34)).alloc (.cells #[.int .i64 0, .slice none 0 0, .slice none 0 0, .int .i64 0, .slice none 0 0, .slice none 0 0] 34) := ⟨_, rfl⟩
  have BA : Box W0 w.heap.size #[.int .i64 b.roots, .slice a1 b.nodes.length c1, .slice a2 b.sites.length c2, .int .i64 b.edges, .slice a3 b.outer.length c3, .slice a4 b.inner.length c4] 34 := by rw [hW0]; exact (Box.new _ _ _).alloc _
  have BR : Box W0 (w.heap.size + 1) #[.int .i64 0, .slice none 0 0, .slice none 0 0, .int .i64 0, .slice none 0 0, .slice none 0 0] 34 := by rw [hW0]; exact Box.new' _ _ _ (by simp)
  have hs0 : w.heap.size + 2 ≤ W0.heap.size := by rw [hW0]; simp
  rw [← hW0] at hA
  cases hg : goodB sig b with
  | false =>
    have hC : rnoC sig b fr tt = false := by unfold rnoC; rw [hg]; rfl
    rw [rno_no hC, hC]
    clear hC
    go_enter Tryz.func43, Tryz.ntmps43
    go_wp2_with fail
    rw [← hW0]
    clear hW0
    refine (l2Good_ct _ _ sig b false _ (h.below hA) hg).mono ?_
    rintro e w2 ⟨rfl, hb⟩
    have BA := BA.below hb
    have BR := BR.below hb
    have hs1 := hb.size
    have hb := bthen hA hb
    have q := BR.cell
    have f := BR.free
    go_wp2_with fail
    refine bodyPost_ret (v := .tuple #[.agg #[.int .i64 0, .slice none 0 0, .slice none 0 0, .int .i64 0, .slice none 0 0, .slice none 0 0], .bool false]) (by simp [results, Tryz.results43, go_sem, q]) rfl ⟨_, _, rfl, noBig_own _ _, by simp, ?_⟩
    iterate 6 refine Below.setCell ?_ (by simp) _
    exact hb
  | true =>
    have hG := good_of hg
    cases hnm : nameB tt with
    | false =>
      have hC : rnoC sig b fr tt = false := by unfold rnoC; rw [hg, hnm]; rfl
      rw [rno_no hC, hC]
      clear hC
      go_enter Tryz.func43, Tryz.ntmps43
      go_wp2_with fail
      rw [← hW0]
      clear hW0
      refine (l2Good_ct _ _ sig b true _ (h.below hA) hg).mono ?_
      rintro e w2 ⟨rfl, hb⟩
      have BA := BA.below hb
      have BR := BR.below hb
      have hs1 := hb.size
      have hb := bthen hA hb
      clear hg
      go_wp2_with fail
      refine (l2Name_ct tt htz false hnm _).mono ?_
      rintro e w3 ⟨rfl, rfl⟩
      have q := BR.cell
      have f := BR.free
      go_wp2_with fail
      refine bodyPost_ret (v := .tuple #[.agg #[.int .i64 0, .slice none 0 0, .slice none 0 0, .int .i64 0, .slice none 0 0, .slice none 0 0], .bool false]) (by simp [results, Tryz.results43, go_sem, q]) rfl ⟨_, _, rfl, noBig_own _ _, by simp, ?_⟩
      iterate 6 refine Below.setCell ?_ (by simp) _
      exact hb
    | true =>
      have h3 := h.big.parts
      obtain ⟨_, _, _, _, _, _, _, _, e0, _, _, h3, _, _, _⟩ := h3
      simp only [Value.agg.injEq, Array.mk.injEq, List.cons.injEq, and_true, true_and, Value.slice.injEq] at e0
      obtain ⟨⟨rfl, rfl⟩, ⟨rfl, rfl⟩, ⟨rfl, rfl⟩, rfl, rfl⟩ := e0
      cases hc : Lib.containsS b.outer fr with
      | false =>
        have hix : Lib.idxOfS b.outer fr < 0 := by unfold Lib.containsS at hc; simpa using hc
        have hC : rnoC sig b fr tt = false := by unfold rnoC; rw [hg, hnm, hc]; rfl
        rw [rno_no hC, hC]
        clear hC
        go_enter Tryz.func43, Tryz.ntmps43
        go_wp2_with fail
        rw [← hW0]
        clear hW0
        refine (l2Good_ct _ _ sig b true _ (h.below hA) hg).mono ?_
        rintro e w2 ⟨rfl, hb⟩
        have BA := BA.below hb
        have BR := BR.below hb
        have hs1 := hb.size
        have hb := bthen hA hb
        clear hg
        go_wp2_with fail
        refine (l2Name_ct tt htz true hnm _).mono ?_
        rintro e w3 ⟨rfl, rfl⟩
        have q := BA.cell
        go_wp2_with fail
        refine (l2At_ct _ b.outer fr _ (h3.below hb)).mono ?_
        rintro e w4 ⟨rfl, rfl⟩
        clear q
        have q := BR.cell
        have f := BR.free
        go_wp2_with fail
        refine bodyPost_ret (v := .tuple #[.agg #[.int .i64 0, .slice none 0 0, .slice none 0 0, .int .i64 0, .slice none 0 0, .slice none 0 0], .bool false]) (by simp [results, Tryz.results43, go_sem, q]) rfl ⟨_, _, rfl, noBig_own _ _, by simp, ?_⟩
        iterate 6 refine Below.setCell ?_ (by simp) _
        exact hb
      | true =>
        have hix : ¬ Lib.idxOfS b.outer fr < 0 := by unfold Lib.containsS at hc; simp only [decide_eq_true_eq] at hc; omega
        by_cases hft : fr = tt
        · have hfb : (fr.toList == tt.toList) = true := by rw [beq_data]; exact decide_eq_true hft
          have hC : rnoC sig b fr tt = true := by unfold rnoC; rw [hg, hnm, hc, decide_eq_true hft]; rfl
          rw [rno_yes hC, hC]
          clear hC
          clear hft
          go_enter Tryz.func43, Tryz.ntmps43
          go_wp2_with fail
          rw [← hW0]
          clear hW0
          refine (l2Good_ct _ _ sig b true _ (h.below hA) hg).mono ?_
          rintro e w2 ⟨rfl, hb⟩
          have BA := BA.below hb
          have BR := BR.below hb
          have hs1 := hb.size
          have hb := bthen hA hb
          clear hg
          go_wp2_with fail
          refine (l2Name_ct tt htz true hnm _).mono ?_
          rintro e w3 ⟨rfl, rfl⟩
          have q := BA.cell
          go_wp2_with fail
          refine (l2At_ct _ b.outer fr _ (h3.below hb)).mono ?_
          rintro e w4 ⟨rfl, rfl⟩
          clear q
          have HMF := Lib.hid ((Lib.containsS_iff _ _).1 hc)
          have hD := hG.bds
          have hol := hD.outer
          have HD := Lib.hid hD
          have HSZ := Lib.hid h3.2
          have H3 := Lib.hid h3
          have hbig := Lib.hid h.big
          have HSL : Hid ((sortU (renmL b fr tt)).length ≤ 16) := by have h1 := sortU_len (renmL b fr tt); rw [renmL_len] at h1; show _ ≤ _; omega
          obtain ⟨kx, hkx, hxx⟩ := idx_get HMF.out
          have hkl := (List.getElem?_eq_some_iff.1 hxx).1
          clear hD hc h3
          obtain ⟨g1, hg1, hg1'⟩ : ∃ g, g ≤ w4.heap.size ∧ w4.heap.size ≤ g := ⟨_, Nat.le_refl _, Nat.le_refl _⟩
          have bx := balloc w4 (.cells #[] 9)
          have q := (BA.below bx).cell
          have acc0 : Acc (w4.alloc (.cells #[] 9)) g1 9 1 (.slice (some ⟨w4.heap.size, 0, none⟩) 0 0) [] := by
            have := Acc.lit0 w4 g1 9 1 (by omega)
            simpa using this
          have hr0 := (H3.out.below (bthen hb bx)).1
          go_wp2_with (at_builtin; refine appR _ rfl (.tmp 40) (.tmp 42) 25 rfl g1 9 1 16 1073741824 (.string ⟨#[]⟩) Tryz.underlying25 inf_str rfl (by decide) (by decide) _ [] (by rfl) acc0 _ (strRows b.outer) (by rfl) hr0 (one_strRows _) (by rw [len_strRows]; simp; omega) (by simp; omega) ?_)
          intro v2 w5 acc2 hg2 _
          obtain ⟨ua, uc, rfl⟩ := acc2.shape
          rw [len_strRows] at acc2 ⊢
          have b5 := grown_below (bx.mono hg1) acc0 hg2 (Nat.le_refl _) (by simp; omega)
          have hb5 := hb.trans (b5.mono (by omega))
          have BA5 := BA.keep (b5.block _ (by omega))
          have BR5 := BR.keep (b5.block _ (by omega))
          have hno : StrsOwn g1 w5 (.slice ua b.outer.length uc) b.outer := ⟨acc2.own, by omega, HSZ.out⟩
          obtain ⟨gl, rfl, hgm, hcy, hfz, hst⟩ := hno.slot hxx
          have hgl := hno.lt gl hgm
          have hst := hst tt htz
          have hrn : b.outer.set kx tt = (renmL b fr tt) := by unfold renmL; rw [hkx, Int.toNat_natCast]
          rw [hrn] at hst
          have HST := Lib.hid hst
          have HNX := Lib.hid hkx
          have q := BA5.cell
          clear hst hrn hno acc2 acc0 hg2 bx hr0 b5 BA BR hxx hkx
          go_wp2_with fail
          refine (l2At_ct _ b.outer fr _ (H3.out.below hb5)).mono ?_
          rintro e w6 ⟨rfl, rfl⟩
          rw [HNX.out]
          go_wp2_with fail
          clear q
          obtain ⟨W6, hW6⟩ : ∃ W, W = w6.setCell ⟨gl, kx, none⟩ (.string tt) := ⟨_, rfl⟩
          first | rw [← hW6] | fail "world6"
          have HST : Hid (StrsOwn g1 W6 (.slice (some ⟨gl, 0, none⟩) b.outer.length uc) (renmL b fr tt)) := by rw [hW6]; exact HST
          have hb6 : Below w.heap.size w W6 := by rw [hW6]; exact Below.setCell hb5 (by dsimp only; omega) _
          have BA6 : Box W6 w.heap.size #[.int .i64 b.roots, .slice a1 b.nodes.length c1, .slice a2 b.sites.length c2, .int .i64 b.edges, .slice a3 b.outer.length c3, .slice a4 b.inner.length c4] 34 := by rw [hW6]; exact BA5.other _ (by dsimp only; omega)
          have BR6 : Box W6 (w.heap.size + 1) #[.int .i64 0, .slice none 0 0, .slice none 0 0, .int .i64 0, .slice none 0 0, .slice none 0 0] 34 := by rw [hW6]; exact BR5.other _ (by dsimp only; omega)
          have hs6 : w.heap.size + 2 ≤ W6.heap.size := by have := BR6.lt; omega
          clear hW6 hcy hfz BA5 BR5 hb5 hb
          have gA0 := fun y => gr_cell (w := W6) (BA6.cell 0) y
          have gA1 := fun y => gr_cell (w := W6) (BA6.cell 1) y
          have gA2 := fun y => gr_cell (w := W6) (BA6.cell 2) y
          have gA3 := fun y => gr_cell (w := W6) (BA6.cell 3) y
          have gA4 := fun y => gr_cell (w := W6) (BA6.cell 4) y
          have gA5 := fun y => gr_cell (w := W6) (BA6.cell 5) y
          refine rg_region [0, 1, 2, 3, 4] [5, 6] (lo := (.cons _ (.cons _ .nil))) (by rfl) (tAt 3 (eRow W6.heap.size 1 (sortU (renmL b fr tt)).length (strRows (sortU (renmL b fr tt))) (len_strRows _)) (tAt 4 (eBigOwn W6.heap.size (rnoR b fr tt)) tNil)) (by kernel_rfl) (by rfl) (by kernel_rfl) ?_
          refine rg_quiet anti_end [0, 1, 2] [3, 4] (lo := (.cons _ (.cons _ (.cons _ .nil)))) (by rfl) (by kernel_rfl) ?_
          repeat (go_big_quiet_step (fail))
          refine wpQuiet_nil ?_
          refine rg_call 3 rfl rfl 118 #[.slice (some ⟨gl, 0, none⟩) b.outer.length uc] ?_ ?_ ?_
          · intro w; simp [go_sem]
          · rintro w' ⟨y, rfl⟩ hd
            refine (l2SortedB_ct _ (renmL b fr tt) _ (HST.out.at.below (gr_below _ _)) (by have := renmL_len b fr tt; omega)).mono ?_
            rintro e w3 ⟨u1, rfl, hu1, bb⟩
            exact ⟨u1, rfl, bb, gRow_of hu1 (gr_below _ _).size⟩
          intro v hv
          obtain ⟨sa, sc, rfl⟩ : ∃ a c, v = .slice a (sortU (renmL b fr tt)).length c := hv
          simp only [Act.put, List.setIfInBounds_toArray, List.set_cons_zero, List.set_cons_succ]
          refine rg_call 4 rfl rfl 119 #[.agg #[.int .i64 b.roots, .slice a1 b.nodes.length c1, .slice a2 b.sites.length c2, .int .i64 b.edges, .slice a3 b.outer.length c3, .slice a4 b.inner.length c4], .slice (some ⟨gl, 0, none⟩) b.outer.length uc, .slice sa (sortU (renmL b fr tt)).length sc] ?_ ?_ ?_
          · intro w; simp [go_sem]
          · rintro w' ⟨y, rfl⟩ hd
            obtain ⟨_, hu0⟩ := (hd ⟨3, .data⟩ (by simp) rfl _ rfl (by decide) 54 rfl)
            obtain ⟨hu, _⟩ : gRow W6.heap.size 1 (strRows (sortU (renmL b fr tt))) (.slice sa (sortU (renmL b fr tt)).length sc) _ _ := hu0
            have hso : StrsOwn W6.heap.size _ (.slice sa (sortU (renmL b fr tt)).length sc) (sortU (renmL b fr tt)) := ⟨hu, by have := HSL.out; omega, fun s hs => HST.out.2.2 s ((sortU_mem _ s).1 hs)⟩
            refine (l2Outer_ct _ _ _ b (renmL b fr tt) (sortU (renmL b fr tt)) _ (hbig.out.below (bthen hb6 (gr_below _ _))) (HST.out.at.below (gr_below _ _)) hso.at HD.out (renmL_len b fr tt) (by have := HSL.out; omega)).mono ?_
            rintro e w3 ⟨u, bs, rfl, hB, hN, bb⟩
            exact ⟨_, rfl, bb, bs, hB.mono (gr_below _ _).size, hN, fun p hp => hB.lt p hp⟩
          intro v hv
          obtain ⟨d1, e1, d2, e2, d3, e3, d4, e4, rfl⟩ : bigSh (rnoR b fr tt) v := hv
          simp only [Act.put, List.setIfInBounds_toArray, List.set_cons_zero, List.set_cons_succ]
          intro w7 U hb7 hF
          obtain ⟨_, _, _, _, _, hF⟩ := hF
          obtain ⟨bs, hB7, hN7, _⟩ : gBig W6.heap.size (rnoR b fr tt) (.agg #[.int .i64 (rnoR b fr tt).roots, .slice d1 (rnoR b fr tt).nodes.length e1, .slice d2 (rnoR b fr tt).sites.length e2, .int .i64 (rnoR b fr tt).edges, .slice d3 (rnoR b fr tt).outer.length e3, .slice d4 (rnoR b fr tt).inner.length e4]) w7 _ := hF
          have hB7 : BigOwn (w.heap.size + 2) w7 (.agg #[.int .i64 (rnoR b fr tt).roots, .slice d1 (rnoR b fr tt).nodes.length e1, .slice d2 (rnoR b fr tt).sites.length e2, .int .i64 (rnoR b fr tt).edges, .slice d3 (rnoR b fr tt).outer.length e3, .slice d4 (rnoR b fr tt).inner.length e4]) (rnoR b fr tt) bs := hB7.mono hs6
          have BR7 := BR6.below hb7
          have hb := bthen hb6 hb7
          have q2 := BR7.cell
          have ff := BR7.free
          clear gA0 gA1 gA2 gA3 gA4 gA5
          go_wp2_with fail
          refine bodyPost_ret (v := .tuple #[.agg #[.int .i64 (rnoR b fr tt).roots, .slice d1 (rnoR b fr tt).nodes.length e1, .slice d2 (rnoR b fr tt).sites.length e2, .int .i64 (rnoR b fr tt).edges, .slice d3 (rnoR b fr tt).outer.length e3, .slice d4 (rnoR b fr tt).inner.length e4], .bool true]) (by simp [results, Tryz.results43, go_sem, q2]) rfl ⟨_, bs, rfl, (fill6 hB7 (by omega) _ _ _ _ _ _).mono (by omega), hN7, fill6b hb (by omega) _ _ _ _ _ _⟩
        · have hfb : (fr.toList == tt.toList) = false := by rw [beq_data]; exact decide_eq_false hft
          cases ht : Lib.containsS b.outer tt with
          | true =>
            have hiy : 0 ≤ Lib.idxOfS b.outer tt := by unfold Lib.containsS at ht; simpa using ht
            have hC : rnoC sig b fr tt = false := by unfold rnoC; rw [hg, hnm, hc, ht, decide_eq_false hft]; rfl
            rw [rno_no hC, hC]
            clear hC
            clear hft
            go_enter Tryz.func43, Tryz.ntmps43
            go_wp2_with fail
            rw [← hW0]
            clear hW0
            refine (l2Good_ct _ _ sig b true _ (h.below hA) hg).mono ?_
            rintro e w2 ⟨rfl, hb⟩
            have BA := BA.below hb
            have BR := BR.below hb
            have hs1 := hb.size
            have hb := bthen hA hb
            clear hg
            go_wp2_with fail
            refine (l2Name_ct tt htz true hnm _).mono ?_
            rintro e w3 ⟨rfl, rfl⟩
            have q := BA.cell
            go_wp2_with fail
            refine (l2At_ct _ b.outer fr _ (h3.below hb)).mono ?_
            rintro e w4 ⟨rfl, rfl⟩
            clear q
            have q := BA.cell
            go_wp2_with fail
            refine (l2At_ct _ b.outer tt _ (h3.below hb)).mono ?_
            rintro e w5 ⟨rfl, rfl⟩
            clear q
            have q := BR.cell
            have f := BR.free
            go_wp2_with fail
            refine bodyPost_ret (v := .tuple #[.agg #[.int .i64 0, .slice none 0 0, .slice none 0 0, .int .i64 0, .slice none 0 0, .slice none 0 0], .bool false]) (by simp [results, Tryz.results43, go_sem, q]) rfl ⟨_, _, rfl, noBig_own _ _, by simp, ?_⟩
            iterate 6 refine Below.setCell ?_ (by simp) _
            exact hb
          | false =>
            have hiy : ¬ 0 ≤ Lib.idxOfS b.outer tt := by unfold Lib.containsS at ht; simpa using ht
            have hC : rnoC sig b fr tt = true := by unfold rnoC; rw [hg, hnm, hc, ht, decide_eq_false hft]; rfl
            rw [rno_yes hC, hC]
            clear hC
            clear hft
            go_enter Tryz.func43, Tryz.ntmps43
            go_wp2_with fail
            rw [← hW0]
            clear hW0
            refine (l2Good_ct _ _ sig b true _ (h.below hA) hg).mono ?_
            rintro e w2 ⟨rfl, hb⟩
            have BA := BA.below hb
            have BR := BR.below hb
            have hs1 := hb.size
            have hb := bthen hA hb
            clear hg
            go_wp2_with fail
            refine (l2Name_ct tt htz true hnm _).mono ?_
            rintro e w3 ⟨rfl, rfl⟩
            have q := BA.cell
            go_wp2_with fail
            refine (l2At_ct _ b.outer fr _ (h3.below hb)).mono ?_
            rintro e w4 ⟨rfl, rfl⟩
            clear q
            have q := BA.cell
            go_wp2_with fail
            refine (l2At_ct _ b.outer tt _ (h3.below hb)).mono ?_
            rintro e w4 ⟨rfl, rfl⟩
            clear q
            have HMF := Lib.hid ((Lib.containsS_iff _ _).1 hc)
            have hD := hG.bds
            have hol := hD.outer
            have HD := Lib.hid hD
            have HSZ := Lib.hid h3.2
            have H3 := Lib.hid h3
            have hbig := Lib.hid h.big
            have HSL : Hid ((sortU (renmL b fr tt)).length ≤ 16) := by have h1 := sortU_len (renmL b fr tt); rw [renmL_len] at h1; show _ ≤ _; omega
            obtain ⟨kx, hkx, hxx⟩ := idx_get HMF.out
            have hkl := (List.getElem?_eq_some_iff.1 hxx).1
            clear hD hc h3
            obtain ⟨g1, hg1, hg1'⟩ : ∃ g, g ≤ w4.heap.size ∧ w4.heap.size ≤ g := ⟨_, Nat.le_refl _, Nat.le_refl _⟩
            have bx := balloc w4 (.cells #[] 9)
            have q := (BA.below bx).cell
            have acc0 : Acc (w4.alloc (.cells #[] 9)) g1 9 1 (.slice (some ⟨w4.heap.size, 0, none⟩) 0 0) [] := by
              have := Acc.lit0 w4 g1 9 1 (by omega)
              simpa using this
            have hr0 := (H3.out.below (bthen hb bx)).1
            go_wp2_with (at_builtin; refine appR _ rfl (.tmp 40) (.tmp 42) 25 rfl g1 9 1 16 1073741824 (.string ⟨#[]⟩) Tryz.underlying25 inf_str rfl (by decide) (by decide) _ [] (by rfl) acc0 _ (strRows b.outer) (by rfl) hr0 (one_strRows _) (by rw [len_strRows]; simp; omega) (by simp; omega) ?_)
            intro v2 w5 acc2 hg2 _
            obtain ⟨ua, uc, rfl⟩ := acc2.shape
            rw [len_strRows] at acc2 ⊢
            have b5 := grown_below (bx.mono hg1) acc0 hg2 (Nat.le_refl _) (by simp; omega)
            have hb5 := hb.trans (b5.mono (by omega))
            have BA5 := BA.keep (b5.block _ (by omega))
            have BR5 := BR.keep (b5.block _ (by omega))
            have hno : StrsOwn g1 w5 (.slice ua b.outer.length uc) b.outer := ⟨acc2.own, by omega, HSZ.out⟩
            obtain ⟨gl, rfl, hgm, hcy, hfz, hst⟩ := hno.slot hxx
            have hgl := hno.lt gl hgm
            have hst := hst tt htz
            have hrn : b.outer.set kx tt = (renmL b fr tt) := by unfold renmL; rw [hkx, Int.toNat_natCast]
            rw [hrn] at hst
            have HST := Lib.hid hst
            have HNX := Lib.hid hkx
            have q := BA5.cell
            clear hst hrn hno acc2 acc0 hg2 bx hr0 b5 BA BR hxx hkx
            go_wp2_with fail
            refine (l2At_ct _ b.outer fr _ (H3.out.below hb5)).mono ?_
            rintro e w6 ⟨rfl, rfl⟩
            rw [HNX.out]
            go_wp2_with fail
            clear q
            obtain ⟨W6, hW6⟩ : ∃ W, W = w6.setCell ⟨gl, kx, none⟩ (.string tt) := ⟨_, rfl⟩
            first | rw [← hW6] | fail "world6"
            have HST : Hid (StrsOwn g1 W6 (.slice (some ⟨gl, 0, none⟩) b.outer.length uc) (renmL b fr tt)) := by rw [hW6]; exact HST
            have hb6 : Below w.heap.size w W6 := by rw [hW6]; exact Below.setCell hb5 (by dsimp only; omega) _
            have BA6 : Box W6 w.heap.size #[.int .i64 b.roots, .slice a1 b.nodes.length c1, .slice a2 b.sites.length c2, .int .i64 b.edges, .slice a3 b.outer.length c3, .slice a4 b.inner.length c4] 34 := by rw [hW6]; exact BA5.other _ (by dsimp only; omega)
            have BR6 : Box W6 (w.heap.size + 1) #[.int .i64 0, .slice none 0 0, .slice none 0 0, .int .i64 0, .slice none 0 0, .slice none 0 0] 34 := by rw [hW6]; exact BR5.other _ (by dsimp only; omega)
            have hs6 : w.heap.size + 2 ≤ W6.heap.size := by have := BR6.lt; omega
            clear hW6 hcy hfz BA5 BR5 hb5 hb
            have gA0 := fun y => gr_cell (w := W6) (BA6.cell 0) y
            have gA1 := fun y => gr_cell (w := W6) (BA6.cell 1) y
            have gA2 := fun y => gr_cell (w := W6) (BA6.cell 2) y
            have gA3 := fun y => gr_cell (w := W6) (BA6.cell 3) y
            have gA4 := fun y => gr_cell (w := W6) (BA6.cell 4) y
            have gA5 := fun y => gr_cell (w := W6) (BA6.cell 5) y
            refine rg_region [0, 1, 2, 3, 4] [5, 6] (lo := (.cons _ (.cons _ .nil))) (by rfl) (tAt 3 (eRow W6.heap.size 1 (sortU (renmL b fr tt)).length (strRows (sortU (renmL b fr tt))) (len_strRows _)) (tAt 4 (eBigOwn W6.heap.size (rnoR b fr tt)) tNil)) (by kernel_rfl) (by rfl) (by kernel_rfl) ?_
            refine rg_quiet anti_end [0, 1, 2] [3, 4] (lo := (.cons _ (.cons _ (.cons _ .nil)))) (by rfl) (by kernel_rfl) ?_
            repeat (go_big_quiet_step (fail))
            refine wpQuiet_nil ?_
            refine rg_call 3 rfl rfl 118 #[.slice (some ⟨gl, 0, none⟩) b.outer.length uc] ?_ ?_ ?_
            · intro w; simp [go_sem]
            · rintro w' ⟨y, rfl⟩ hd
              refine (l2SortedB_ct _ (renmL b fr tt) _ (HST.out.at.below (gr_below _ _)) (by have := renmL_len b fr tt; omega)).mono ?_
              rintro e w3 ⟨u1, rfl, hu1, bb⟩
              exact ⟨u1, rfl, bb, gRow_of hu1 (gr_below _ _).size⟩
            intro v hv
            obtain ⟨sa, sc, rfl⟩ : ∃ a c, v = .slice a (sortU (renmL b fr tt)).length c := hv
            simp only [Act.put, List.setIfInBounds_toArray, List.set_cons_zero, List.set_cons_succ]
            refine rg_call 4 rfl rfl 119 #[.agg #[.int .i64 b.roots, .slice a1 b.nodes.length c1, .slice a2 b.sites.length c2, .int .i64 b.edges, .slice a3 b.outer.length c3, .slice a4 b.inner.length c4], .slice (some ⟨gl, 0, none⟩) b.outer.length uc, .slice sa (sortU (renmL b fr tt)).length sc] ?_ ?_ ?_
            · intro w; simp [go_sem]
            · rintro w' ⟨y, rfl⟩ hd
              obtain ⟨_, hu0⟩ := (hd ⟨3, .data⟩ (by simp) rfl _ rfl (by decide) 54 rfl)
              obtain ⟨hu, _⟩ : gRow W6.heap.size 1 (strRows (sortU (renmL b fr tt))) (.slice sa (sortU (renmL b fr tt)).length sc) _ _ := hu0
              have hso : StrsOwn W6.heap.size _ (.slice sa (sortU (renmL b fr tt)).length sc) (sortU (renmL b fr tt)) := ⟨hu, by have := HSL.out; omega, fun s hs => HST.out.2.2 s ((sortU_mem _ s).1 hs)⟩
              refine (l2Outer_ct _ _ _ b (renmL b fr tt) (sortU (renmL b fr tt)) _ (hbig.out.below (bthen hb6 (gr_below _ _))) (HST.out.at.below (gr_below _ _)) hso.at HD.out (renmL_len b fr tt) (by have := HSL.out; omega)).mono ?_
              rintro e w3 ⟨u, bs, rfl, hB, hN, bb⟩
              exact ⟨_, rfl, bb, bs, hB.mono (gr_below _ _).size, hN, fun p hp => hB.lt p hp⟩
            intro v hv
            obtain ⟨d1, e1, d2, e2, d3, e3, d4, e4, rfl⟩ : bigSh (rnoR b fr tt) v := hv
            simp only [Act.put, List.setIfInBounds_toArray, List.set_cons_zero, List.set_cons_succ]
            intro w7 U hb7 hF
            obtain ⟨_, _, _, _, _, hF⟩ := hF
            obtain ⟨bs, hB7, hN7, _⟩ : gBig W6.heap.size (rnoR b fr tt) (.agg #[.int .i64 (rnoR b fr tt).roots, .slice d1 (rnoR b fr tt).nodes.length e1, .slice d2 (rnoR b fr tt).sites.length e2, .int .i64 (rnoR b fr tt).edges, .slice d3 (rnoR b fr tt).outer.length e3, .slice d4 (rnoR b fr tt).inner.length e4]) w7 _ := hF
            have hB7 : BigOwn (w.heap.size + 2) w7 (.agg #[.int .i64 (rnoR b fr tt).roots, .slice d1 (rnoR b fr tt).nodes.length e1, .slice d2 (rnoR b fr tt).sites.length e2, .int .i64 (rnoR b fr tt).edges, .slice d3 (rnoR b fr tt).outer.length e3, .slice d4 (rnoR b fr tt).inner.length e4]) (rnoR b fr tt) bs := hB7.mono hs6
            have BR7 := BR6.below hb7
            have hb := bthen hb6 hb7
            have q2 := BR7.cell
            have ff := BR7.free
            clear gA0 gA1 gA2 gA3 gA4 gA5
            go_wp2_with fail
            refine bodyPost_ret (v := .tuple #[.agg #[.int .i64 (rnoR b fr tt).roots, .slice d1 (rnoR b fr tt).nodes.length e1, .slice d2 (rnoR b fr tt).sites.length e2, .int .i64 (rnoR b fr tt).edges, .slice d3 (rnoR b fr tt).outer.length e3, .slice d4 (rnoR b fr tt).inner.length e4], .bool true]) (by simp [results, Tryz.results43, go_sem, q2]) rfl ⟨_, bs, rfl, (fill6 hB7 (by omega) _ _ _ _ _ _).mono (by omega), hN7, fill6b hb (by omega) _ _ _ _ _ _⟩
end Go.Proofs.YthbdmcobpcoajaaGreatDoor
