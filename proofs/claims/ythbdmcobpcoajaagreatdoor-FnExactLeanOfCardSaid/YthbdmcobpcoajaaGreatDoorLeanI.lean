/- A bigraph without its idle edges: the program's. -/
import Derived.Test.YthbdmcobpcoajaaGreatDoorLeanP
import Derived.Test.YthbdmcobpcoajaaGreatDoorRelink
namespace Go.Proofs.YthbdmcobpcoajaaGreatDoor
open Go Go.RowKit Go.BigFrame

theorem getDI_of {l : List Int} {k : Nat} {x : Int} (h : l[k]? = some x) : l.getD k 0 = x := by rw [List.getD_eq_getElem?_getD, h]; rfl
theorem iIndex_ct (v : Value) (l : List Int) (x : Int) (w : World) (h : IntsAt w v l) : Calls Tryz.prog 160 #[v, .int .i64 x] w fun e w' => e = .returned (.int .i64 (Lib.idxOf l x)) ∧ w' = w := by
  obtain ⟨a, c, rfl, _, hl, h3⟩ := h.open
  cases hl0 : l with
  | nil => exact Tryz.slices_Index_int_empty a c x w
  | cons s l' =>
    rw [← hl0]
    obtain ⟨_, b, o, rfl, _⟩ := h3 0 s (by rw [hl0]; rfl)
    refine (Tryz.slices_Index_int b o l.length c l x w (Nat.le_refl _) (by omega) (fun j hj => ?_)).mono ?_
    · obtain ⟨y, hy⟩ := getElem?_of_lt hj
      obtain ⟨_, b', o', e', hc⟩ := h3 j y hy
      obtain ⟨rfl, rfl⟩ : b = b' ∧ o = o' := by simpa using e'
      rw [hc, getDI_of hy]
    · rintro e w' ⟨rfl, rfl⟩
      rw [List.take_length]; exact ⟨rfl, rfl⟩
set_option maxRecDepth 100000 in
set_option maxHeartbeats 2000000 in
theorem leanCl_ct {la : Option Addr} {lc : Nat} {t : TypeId} (gl : Nat) (b : Big) (p : Int) (s : ByteArray) (W : World) (B : Box W gl #[.slice la (leftL b).length lc] t) (hl : IntsAt W (.slice la (leftL b).length lc) (leftL b)) :
    Calls Tryz.prog 159 (#[.agg #[.int .i64 p, .string s]] ++ #[.pointer (some ⟨gl, 0, none⟩)]) W fun e w' => e = .returned (.agg #[.int .i64 (leanT b (p, s)).1, .string (leanT b (p, s)).2]) ∧ Below W.heap.size W w' := by
  rw [show (#[.agg #[.int .i64 p, .string s]] ++ #[.pointer (some ⟨gl, 0, none⟩)] : Array Value) = #[.agg #[.int .i64 p, .string s], .pointer (some ⟨gl, 0, none⟩)] from rfl]
  obtain ⟨W2, hW2⟩ : ∃ X, X = (W.alloc (.cells #[.int .i64 p, .string s] 151)).alloc (.cells #[.int .i64 0, .string ⟨#[]⟩] 151) := ⟨_, rfl⟩
  have b2 : Below W.heap.size W W2 := by rw [hW2]; exact bthen (balloc _ _) (balloc _ _)
  have BE : Box W2 W.heap.size #[.int .i64 p, .string s] 151 := by rw [hW2]; exact (Box.new _ _ _).alloc _
  have BR : Box W2 (W.heap.size + 1) #[.int .i64 0, .string ⟨#[]⟩] 151 := by rw [hW2]; exact Box.new' _ _ _ (by simp)
  have B2 := B.below b2
  have hl2 := hl.below b2
  have hgl := B.lt
  have q := BE.cell
  have ff := BE.free
  have q1 := B2.cell
  have q2 := BR.cell
  have f2 := BR.free
  by_cases hz : s = ⟨#[]⟩
  · have hz' : s.toList.isEmpty = true := by rw [hz, ByteArray.toList_eq]; rfl
    have HN : Hid (leanT b (p, s) = (Lib.idxOf (leftL b) p, s)) := by show _ = _; unfold leanT; rw [if_pos hz]
    have BEs := BE.set 0 (.int .i64 (Lib.idxOf (leftL b) p))
    have BRs := BR.other (p := ⟨W.heap.size, 0, none⟩) (.int .i64 (Lib.idxOf (leftL b) p)) (by simp)
    have q3 := BEs.cell
    have q4 := BRs.cell
    have f4 := BRs.free
    subst hW2
    clear hz
    go_enter Tryz.func159, Tryz.ntmps159
    go_wp2_with fail
    refine (iIndex_ct _ (leftL b) p _ hl2).mono ?_
    rintro e w3 ⟨rfl, rfl⟩
    go_wp2_with fail
    refine bodyPost_ret (v := .agg #[.int .i64 (Lib.idxOf (leftL b) p), .string s]) (by simp [results, Tryz.results159, go_sem]) rfl ⟨by rw [HN.out], ?_⟩
    exact bthen (balloc _ _) (balloc _ _)
  · have hz' : s.toList.isEmpty = false := by
      cases hh : s.toList.isEmpty with
      | false => rfl
      | true =>
        exfalso; apply hz
        apply ba_inj
        rw [ByteArray.toList_eq] at hh
        simpa using hh
    have HN : Hid (leanT b (p, s) = (p, s)) := by show _ = _; unfold leanT; rw [if_neg hz]
    subst hW2
    clear hz
    go_enter Tryz.func159, Tryz.ntmps159
    go_wp2_with fail
    refine bodyPost_ret (v := .agg #[.int .i64 p, .string s]) (by simp [results, Tryz.results159, go_sem]) rfl ⟨by rw [HN.out], ?_⟩
    exact bthen (balloc _ _) (balloc _ _)
set_option maxRecDepth 100000 in
set_option maxHeartbeats 4000000 in
theorem lean_ct (v : Value) (sig : List Ctl) (b : Big) (w : World) (h : BigAt w v b) (hG : Good sig b) : Calls Tryz.prog 79 #[v] w fun e w' => ∃ u bs, e = .returned u ∧ BigOwn w.heap.size w' u (leanBig b) bs ∧ bs.Nodup ∧ Below w.heap.size w w' := by
  obtain ⟨a1, c1, a2, c2, a3, c3, a4, c4, rfl⟩ := h.shape
  have hD := hG.bds
  obtain ⟨E, hE⟩ : ∃ E : Nat, b.edges = E := ⟨b.edges.toNat, by have := hD.edges; omega⟩
  have hE8 : E ≤ 8 := by have := hD.edges; omega
  have HE := Lib.hid hE
  have HLF : Hid (leftL b = pickN (actF b) E) := by show _ = _; unfold leftL; rw [hE]; rfl
  obtain ⟨_, _, _, _, _, _, _, _, e0, _, _, h3, _, _, _⟩ := h.parts
  simp only [Value.agg.injEq, Array.mk.injEq, List.cons.injEq, and_true, true_and, Value.slice.injEq] at e0
  obtain ⟨⟨rfl, rfl⟩, ⟨rfl, rfl⟩, ⟨rfl, rfl⟩, rfl, rfl⟩ := e0
  have HREL0 := fun (gl : Nat) (la : Option Addr) (lc : Nat) (t : TypeId) W (h : BigAt W (.agg #[.int .i64 b.roots, .slice a1 b.nodes.length c1, .slice a2 b.sites.length c2, .int .i64 b.edges, .slice a3 b.outer.length c3, .slice a4 b.inner.length c4]) b) (ho : StrsAt W (.slice a3 b.outer.length c3) b.outer) (B : Box W gl #[.slice la (leftL b).length lc] t) (hl : IntsAt W (.slice la (leftL b).length lc) (leftL b)) =>
    relinked_ct 159 #[.pointer (some ⟨gl, 0, none⟩)] (by intros; rfl) (leanT b) (sqF b) _ _ b ((leftL b).length : Int) b.outer W h ho hD (by have h1 : (leftL b).length ≤ b.edges.toNat := cntA_le b b.edges.toNat; have := hD.edges; omega) (by have := hD.outer; omega) (fun l _ W' hb' => leanCl_ct gl b _ _ W' (B.below hb') (hl.below hb')) (fun l hu => sqF_lean hG hu) (fun l hu => sqF_bd hD hu)
  rw [sortU_self hG.asc] at HREL0
  have HREL := Lib.hid HREL0
  have HG := Lib.hid hG
  have HB0 := Lib.hid h
  have H3 := Lib.hid h3
  clear hG hD hE h h3 HREL0
  go_enter Tryz.func79, Tryz.ntmps79
  go_wp2_with fail
  obtain ⟨w2, hW0⟩ : ∃ W, W = (w.alloc (.cells #[.int .i64 b.roots, .slice a1 b.nodes.length c1, .slice a2 b.sites.length c2, .int .i64 b.edges, .slice a3 b.outer.length c3, .slice a4 b.inner.length c4] 34)).alloc (.cells #[.int .i64 0, .slice none 0 0, .slice none 0 0, .int .i64 0, .slice none 0 0, .slice none 0 0] 34) := ⟨_, rfl⟩
  rw [← hW0]
  have hA : Below w.heap.size w w2 := by rw [hW0]; exact bthen (balloc w _) (balloc _ _)
  have BA : Box w2 w.heap.size #[.int .i64 b.roots, .slice a1 b.nodes.length c1, .slice a2 b.sites.length c2, .int .i64 b.edges, .slice a3 b.outer.length c3, .slice a4 b.inner.length c4] 34 := by rw [hW0]; exact (Box.new _ _ _).alloc _
  have BR : Box w2 (w.heap.size + 1) #[.int .i64 0, .slice none 0 0, .slice none 0 0, .int .i64 0, .slice none 0 0, .slice none 0 0] 34 := by rw [hW0]; exact Box.new' _ _ _ (by simp)
  obtain ⟨g1, hg1⟩ : ∃ g, g = w.heap.size + 1 + 1 := ⟨_, rfl⟩
  have hw2 : w2.heap.size = g1 := by rw [hW0, hg1]; simp
  clear hW0
  rw [← hg1]
  obtain ⟨W4, hW4⟩ : ∃ W, W = (w2.alloc (.cells #[] 3)).alloc (.cells #[.slice (some ⟨g1, 0, none⟩) 0 0] 24) := ⟨_, rfl⟩
  rw [← hW4]
  have b4 : Below w2.heap.size w2 W4 := by rw [hW4]; exact bthen (balloc w2 _) (balloc _ _)
  obtain ⟨gl, hgl⟩ : ∃ g, g = g1 + 1 := ⟨_, rfl⟩
  have BL : Box W4 gl #[.slice (some ⟨g1, 0, none⟩) 0 0] 24 := by rw [hW4]; exact Box.new' _ _ _ (by simp [hgl, hw2])
  have acc : Acc W4 g1 3 1 (.slice (some ⟨g1, 0, none⟩) 0 0) (intRows (pickN (actF b) 0)) := by
    rw [hW4, ← hw2]; simpa [pickN, intRows] using (Acc.lit0 w2 w2.heap.size 3 1 (Nat.le_refl _)).below (balloc _ _)
  have BA := BA.below b4
  have BR := BR.below b4
  have hb := bthen hA b4
  have hgs : w.heap.size + 2 ≤ g1 := by omega
  have hs4 : g1 + 2 ≤ W4.heap.size := by rw [hW4, ← hw2]; simp
  have hgg : g1 < gl := by omega
  rw [← hgl]
  have hfr : Hid (∀ g, (Value.slice (some ⟨g1, 0, none⟩) 0 0).ownBlock = some g → g ≠ gl) := fun g h => by
    simp only [Value.ownBlock, Option.some.injEq] at h
    omega
  clear b4 hA hg1 hgl hW4 hw2
  go_loopw [8, 4] (fun i _ W => ∃ k : Nat, k ≤ E ∧ i = .int .i64 k ∧ Below g1 W4 W ∧ ∃ vs, Box W gl #[vs] 24 ∧ Acc W g1 3 1 vs (intRows (pickN (actF b) k)) ∧ Hid (∀ g, vs.ownBlock = some g → g ≠ gl)) (fun i _ _ => E - (intOf i).toNat)
  case atStart => exact ⟨0, Nat.zero_le _, rfl, Below.refl _ _, _, BL, acc, hfr⟩
  case round =>
    clear BL acc hfr
    obtain ⟨k, hk, rfl, bN, vs, BL, acc, hfr⟩ := hrel
    obtain ⟨av, cv, rfl⟩ := acc.shape
    obtain ⟨m, hm⟩ : ∃ m, m = (intRows (pickN (actF b) k)).length := ⟨_, rfl⟩
    have hmk : m ≤ k := by rw [hm]; have := pickN_len (actF b) k; simpa [intRows] using this
    have HL : Hid ((intRows (pickN (actF b) k)).length = m) := hm.symm
    rw [HL.out] at acc hfr BL
    clear hm
    have BAw := BA.keep (bN.block _ (by omega))
    have BRw := BR.keep (bN.block _ (by omega))
    have hbw := hb.trans (bN.mono (by omega))
    have hsw := bN.size
    have q := BAw.cell
    by_cases hkl : (k : Int) < b.edges
    · cases hq : idleB b (k : Int) with
      | true =>
        have HT : Hid (pickN (actF b) (k + 1) = pickN (actF b) k) := pickN_no (by unfold actF; rw [hq]; rfl)
        have hci := isIdle_ct _ sig b (k : Int) true wr (HB0.out.below hbw) HG.out (by have := HE.out; unfold I64; omega) hq
        clear hq
        go_wp2_with fail
        refine hci.mono ?_
        rintro e w5 ⟨rfl, b5⟩
        have bN2 := bN.trans (b5.mono (by omega))
        have BL2 := BL.below b5
        have acc2 := acc.below b5
        clear hci q bN BL acc b5
        go_wp2_with fail
        go_roundw
        case rel => exact ⟨k + 1, by have := HE.out; omega, by go_num, bN2, _, BL2, by rw [HT.out]; exact acc2, hfr⟩
        case measure => have := HE.out; simp [intOf]; omega
      | false =>
        have HT : Hid (intRows (pickN (actF b) (k + 1)) = intRows (pickN (actF b) k) ++ [[.int .i64 k]]) := by show _ = _; rw [pickN_yes (by unfold actF; rw [hq]; rfl)]; simp [intRows]
        have hci := isIdle_ct _ sig b (k : Int) false wr (HB0.out.below hbw) HG.out (by have := HE.out; unfold I64; omega) hq
        clear hq
        go_wp2_with fail
        refine hci.mono ?_
        rintro e w5 ⟨rfl, b5⟩
        have bN2 := bN.trans (b5.mono (by omega))
        have BL2 := BL.below b5
        have acc2 := acc.below b5
        have bx := balloc w5 (.cells #[.int .i64 k] 3)
        have q2 := BL2.cell
        have qx := (BL2.below bx).cell
        have hs5 := b5.size
        clear hci q bN BL acc b5
        go_wp2_with (at_builtin; refine appR _ rfl (.tmp 15) (.tmp 17) 24 rfl g1 3 1 8 1 (.int .i64 0) Tryz.underlying24 inf_int rfl (by decide) (by decide) _ (intRows (pickN (actF b) k)) (by rfl) (acc2.below bx) _ [[.int .i64 k]] (by rfl) (rowAt_one (row := [.int .i64 k]) (heap_alloc_new _ _) (by decide)) (by simp [Value.oneCell']) (by rw [HL.out]; simp; omega) (by simp; omega) ?_)
        intro v2 w6 acc3 hg hf2
        rw [← HT.out] at acc3
        have bN3 := grown_below (bN2.trans (bx.mono (by omega))) (acc2.below bx) hg (Nat.le_refl _) (by have := bx.size; omega)
        have hl2 := BL2.lt
        have BL3 := (BL2.below bx).keep (hg.block _ (Nat.lt_of_lt_of_le BL2.lt bx.size) (fun e => hfr.out _ e.symm rfl))
        have hfr3 : Hid (∀ g, v2.ownBlock = some g → g ≠ gl) := by
          intro g e
          rcases hf2 with h | h
          · rw [h] at e; exact hfr.out g e
          · rw [h] at e
            have := Option.some.inj e
            have hb' := bx.size
            omega
        have BL4 := BL3.set 0 v2
        have hfr3' := hfr3
        have acc4 := acc3
        have q3 := BL3.cell
        have f3 := BL3.free
        obtain ⟨av3, cv3, rfl⟩ := acc3.shape
        have acc5 : Acc (w6.setCell ⟨gl, 0, none⟩ (.slice av3 (intRows (pickN (actF b) (k + 1))).length cv3)) g1 3 1 (.slice av3 (intRows (pickN (actF b) (k + 1))).length cv3) (intRows (pickN (actF b) (k + 1))) := by
          refine ⟨⟨acc4.1.1, ?_⟩, acc4.2⟩
          rcases acc4.1.2 with hn | ⟨g, c, cur, h1, h2, h3, h4⟩
          · exact .inl hn
          · refine .inr ⟨g, c, cur, h1, h2, ?_, h4⟩
            rw [heap_setCell_other _ _ _ _ (by
              dsimp only
              intro e
              simp only [Value.slice.injEq] at h1
              exact hfr3.out g (by rw [h1.1]; rfl) e)]
            exact h3
        have HA5 := Lib.hid acc5
        have HB4 := Lib.hid BL4
        clear acc2 hg hf2 BL2 bN2 bx q2 qx acc3 acc4 BL3 BL4 hfr acc5
        go_wp2_with fail
        go_roundw
        case rel => exact ⟨k + 1, by have := HE.out; omega, by go_num, bN3.setCell (by simp; omega) _, _, HB4.out, HA5.out, hfr3⟩
        case measure => have := HE.out; simp [intOf]; omega
    · have e : k = E := by have := HE.out; omega
      subst e
      have hml : m = (leftL b).length := by rw [HLF.out, ← HL.out]; simp [intRows]
      subst hml
      rw [← HLF.out] at acc
      have hl : IntsAt wr (.slice av (leftL b).length cv) (leftL b) := by
        refine ⟨acc.own.row (by simp [intRows]; have := pickN_len (actF b) k; rw [← HLF.out] at this; omega), fun x hx => ?_⟩
        rw [HLF.out] at hx
        exact pickN_i64 (actF b) k (by omega) x hx
      have HR0 := Lib.hid (HREL.out gl av cv _ wr (HB0.out.below hbw) (H3.out.below hbw) BL hl)
      have qL := BL.cell
      clear acc hl HL hfr HREL
      go_wp2_with fail
      refine HR0.out.mono ?_
      rintro e w6 ⟨u, bs, rfl, hB, hN, b6⟩
      have hBL : BigOwn wr.heap.size w6 u (leanBig b) bs := hB
      obtain ⟨d1, e1, d2, e2, d3, e3, d4, e4, rfl⟩ := hBL.at.shape
      have BR6 := BRw.below b6
      have q2 := BR6.cell
      have f2 := BR6.free
      have hb6 := bthen hbw b6
      have hs6 : w.heap.size + 2 ≤ wr.heap.size := by omega
      clear HR0 q qL hB
      go_wp2_with fail
      refine bodyPost_ret (v := .agg #[.int .i64 (leanBig b).roots, .slice d1 (leanBig b).nodes.length e1, .slice d2 (leanBig b).sites.length e2, .int .i64 (leanBig b).edges, .slice d3 (leanBig b).outer.length e3, .slice d4 (leanBig b).inner.length e4]) (by simp [results, Tryz.results79, go_sem, q2]) rfl ⟨_, bs, rfl, (fill6 hBL (by omega) _ _ _ _ _ _).mono (by omega), hN, fill6b hb6 (by omega) _ _ _ _ _ _⟩
end Go.Proofs.YthbdmcobpcoajaaGreatDoor
