/- A bigraph's own copy: the reference's. -/
import Derived.Test.YthbdmcobpcoajaaGreatDoorRenB
import Derived.Test.YthbdmcobpcoajaaGreatDoorG1
namespace Go.Proofs.YthbdmcobpcoajaaGreatDoor
open Go Go.RowKit Go.BigFrame

def idRows (n k : Nat) : List (List Value) := intRows ((idL n).take k)
theorem idRows_len {n k : Nat} (h : k ≤ n) : (idRows n k).length = k := by simp [idRows, intRows, idL_length]; omega
theorem idRows_snoc {n k : Nat} (h : k < n) : idRows n (k + 1) = idRows n k ++ [[.int .i64 k]] := by
  unfold idRows
  rw [take_snoc_l (idL_get h)]; simp [intRows]
theorem idRows_full (n : Nat) : idRows n n = intRows (idL n) := by unfold idRows; rw [List.take_of_length_le (by rw [idL_length]; exact Nat.le_refl _)]
theorem idL_mem {n : Nat} {x : Int} (h : x ∈ idL n) : 0 ≤ x ∧ x < (n : Int) := by
  unfold idL at h
  obtain ⟨k, hk, rfl⟩ := List.mem_map.1 h
  have := List.mem_range.1 hk
  omega
set_option maxRecDepth 100000 in
set_option maxHeartbeats 4000000 in
theorem l2Own_ct (v : Value) (b : Big) (w : World) (h : BigAt w v b) (hn : b.nodes.length ≤ 1000) (hk : ∀ n ∈ b.nodes, n.links.length ≤ 1000) (hsl : b.sites.length ≤ 1000) (ho : b.outer.length ≤ 1000) (hi : b.inner.length ≤ 1000) (he : 0 ≤ b.edges ∧ b.edges ≤ 1000)
    (hpb : ∀ n ∈ b.nodes, -1073741824 ≤ n.par ∧ n.par < (b.nodes.length : Int)) (hlb : ∀ n ∈ b.nodes, ∀ x ∈ n.links, 0 ≤ x ∧ x < 1073741824) (hsb : ∀ p ∈ b.sites, -1073741824 ≤ p ∧ p < (b.nodes.length : Int)) (hib : ∀ x ∈ b.inner, 0 ≤ x.link ∧ x.link < 1073741824) :
    Calls Tryz.prog 147 #[v] w fun e w' => ∃ u bs, e = .returned u ∧ BigOwn w.heap.size w' u b bs ∧ bs.Nodup ∧ Below w.heap.size w w' := by
  obtain ⟨a1, c1, a2, c2, a3, c3, a4, c4, rfl⟩ := h.shape
  obtain ⟨E, hE⟩ : ∃ E : Nat, b.edges = E := ⟨b.edges.toNat, by omega⟩
  have HCT := Lib.hid (fun vt ve W (h : BigAt W (.agg #[.int .i64 b.roots, .slice a1 b.nodes.length c1, .slice a2 b.sites.length c2, .int .i64 b.edges, .slice a3 b.outer.length c3, .slice a4 b.inner.length c4]) b) (ht : IntsAt W vt (idL b.nodes.length)) (hes : IntsAt W ve (idL E)) => l2Renumber_ct _ vt ve b (idL b.nodes.length) (idL E) W h ht hes hn hk hsl ho hi (idL_length _) (fun x hx => idL_mem hx) (by rw [idL_length]; exact hpb) (by rw [idL_length]; exact fun n hn x hx => ⟨hlb n hn x hx, fun h => by omega⟩) (by rw [idL_length]; exact hsb) (by rw [idL_length]; exact fun x hx => ⟨hib x hx, fun h => by omega⟩))
  have HID := Lib.hid (renB_id hE (fun n hn => (hpb n hn).2) (fun n hn x hx => (hlb n hn x hx).1) (fun p hp => (hsb p hp).2) (fun x hx => (hib x hx).1))
  have HE := Lib.hid hE
  have HB0 := Lib.hid h
  clear hE hk hpb hlb hsb hib h
  go_enter Tryz.func147, Tryz.ntmps147
  go_wp2_with fail
  obtain ⟨w2, hW0⟩ : ∃ W, W = (w.alloc (.cells #[.int .i64 b.roots, .slice a1 b.nodes.length c1, .slice a2 b.sites.length c2, .int .i64 b.edges, .slice a3 b.outer.length c3, .slice a4 b.inner.length c4] 34)).alloc (.cells #[.int .i64 0, .slice none 0 0, .slice none 0 0, .int .i64 0, .slice none 0 0, .slice none 0 0] 34) := ⟨_, rfl⟩
  rw [← hW0]
  have hA : Below w.heap.size w w2 := by rw [hW0]; exact bthen (balloc w _) (balloc _ _)
  have BA : Box w2 w.heap.size #[.int .i64 b.roots, .slice a1 b.nodes.length c1, .slice a2 b.sites.length c2, .int .i64 b.edges, .slice a3 b.outer.length c3, .slice a4 b.inner.length c4] 34 := by rw [hW0]; exact (Box.new _ _ _).alloc _
  have BR : Box w2 (w.heap.size + 1) #[.int .i64 0, .slice none 0 0, .slice none 0 0, .int .i64 0, .slice none 0 0, .slice none 0 0] 34 := by rw [hW0]; exact Box.new' _ _ _ (by simp)
  obtain ⟨g1, hg1⟩ : ∃ g, g = w.heap.size + 1 + 1 := ⟨_, rfl⟩
  have hw2 : w2.heap.size = g1 := by rw [hW0, hg1]; simp
  clear hW0
  obtain ⟨W3, hW3⟩ : ∃ W, W = (w2.alloc (.cells #[] 3)).alloc (.cells #[] 3) := ⟨_, rfl⟩
  rw [← hW3]
  have b3 : Below w2.heap.size w2 W3 := by rw [hW3]; exact bthen (balloc w2 _) (balloc _ _)
  obtain ⟨g2, hg2⟩ : ∃ g, g = g1 + 1 := ⟨_, rfl⟩
  have B2 : Box W3 g2 #[] 3 := by rw [hW3]; exact Box.new' _ _ _ (by simp [hg2, hw2])
  have acc : Acc W3 g1 3 1 (.slice (some ⟨g1, 0, none⟩) 0 0) (idRows b.nodes.length 0) := by
    rw [hW3, ← hw2]; simpa [idRows, intRows] using (Acc.lit0 w2 w2.heap.size 3 1 (Nat.le_refl _)).below (balloc _ _)
  have hgl : w.heap.size + 2 ≤ g1 ∧ g2 = g1 + 1 := ⟨by omega, by omega⟩
  have hs3 : g1 + 2 ≤ W3.heap.size := by rw [hW3, ← hw2]; simp
  rw [← hg1, ← hg2]
  have BA := BA.below b3
  have BR := BR.below b3
  have hb := bthen hA b3
  obtain ⟨hgl1, hgl2⟩ := hgl
  have HG2 := Lib.hid hgl2
  have hgl3 : g1 < g2 := by omega
  have hgl4 : g2 < W3.heap.size := by omega
  have hfr : Hid (∀ g, (Value.slice (some ⟨g1, 0, none⟩) 0 0).ownBlock = some g → g ≠ g2) := fun g h => by
    simp only [Value.ownBlock, Option.some.injEq] at h
    omega
  clear b3 hA hg1 hg2 hW3 hgl2 hw2
  go_loopw [3, 5] (fun o i W => ∃ k : Nat, k ≤ b.nodes.length ∧ i = .int .i64 k ∧ Below g1 W3 W ∧ Box W g2 #[] 3 ∧ Acc W g1 3 1 o (idRows b.nodes.length k) ∧ Hid (∀ g, o.ownBlock = some g → g ≠ g2)) (fun _ i _ => b.nodes.length - (intOf i).toNat)
  case atStart => exact ⟨0, Nat.zero_le _, rfl, Below.refl _ _, B2, acc, hfr⟩
  case round =>
    clear B2 acc hfr
    obtain ⟨k, hk, rfl, bN, B2, acc, hfr⟩ := hrel
    obtain ⟨av, cv, rfl⟩ := acc.shape
    have HL : Hid ((idRows b.nodes.length k).length = k) := idRows_len hk
    rw [HL.out] at acc hfr ⊢
    have BAw := BA.keep (bN.block _ (by omega))
    have q := BAw.cell
    have hsw := bN.size
    by_cases hkl : k < b.nodes.length
    · have HT := Lib.hid (idRows_snoc hkl)
      have bx := balloc wr (.cells #[.int .i64 k] 3)
      go_wp2_with (at_builtin; refine appR _ rfl (.tmp 16) (.tmp 18) 24 rfl g1 3 1 8 1 (.int .i64 0) Tryz.underlying24 inf_int rfl (by decide) (by decide) _ (idRows b.nodes.length k) (by rfl) (acc.below bx) _ [[.int .i64 k]] (by rfl) (rowAt_one (row := [.int .i64 k]) (heap_alloc_new _ _) (by decide)) (by simp [Value.oneCell']) (by rw [HL.out]; simp; omega) (by simp; omega) ?_)
      intro v2 w5 acc2 hg hf2
      rw [← HT.out] at acc2
      obtain ⟨av2, cv2, rfl⟩ := acc2.shape
      rw [idRows_len (by omega)] at acc2 hf2 ⊢
      have bN2 := grown_below (bN.trans (bx.mono (by omega))) (acc.below bx) hg (Nat.le_refl _) (by have := bx.size; omega)
      have B22 := (B2.below bx).keep (hg.block _ (Nat.lt_of_lt_of_le B2.lt bx.size) (fun e => hfr.out _ e.symm rfl))
      have hl2 := B2.lt
      have hfr2 : Hid (∀ g, (Value.slice av2 (k + 1) cv2).ownBlock = some g → g ≠ g2) := by
        intro g e
        rcases hf2 with h | h
        · rw [h] at e; exact hfr.out g e
        · rw [h] at e
          have := Option.some.inj e
          have hb' := bx.size
          omega
      clear acc hg hf2 B2 bN hfr bx q
      go_wp2_with fail
      go_roundw
      case rel => exact ⟨k + 1, by omega, by go_num, bN2, B22, acc2, hfr2⟩
      case measure => simp [intOf]; omega
    · have e : k = b.nodes.length := by omega
      subst e
      rw [idRows_full] at acc
      go_wp2_with fail
      obtain ⟨wa, rfl⟩ : ∃ W, W = wr := ⟨_, rfl⟩
      have hto : IntsOwn g1 wa (.slice av b.nodes.length cv) (idL b.nodes.length) := ⟨acc.own, by rw [idL_length]; omega, fun x hx => by have := idL_mem hx; unfold I64; omega⟩
      have hlo : Hid (∀ q ∈ blks (.slice av b.nodes.length cv), q ≠ g2 ∧ q < wa.heap.size) := fun q hq => ⟨fun e => hfr.out q (blks_own hq) e, (hto.lt q hq).2⟩
      have BRw := BR.keep (bN.block _ (by omega))
      have hb := hb.trans (bN.mono (by omega))
      have acc2 : Acc wa g2 3 1 (.slice (some ⟨g2, 0, none⟩) 0 0) (idRows E 0) := by
        refine ⟨⟨by simp [idRows, intRows], .inr ⟨g2, 0, #[], ?_⟩⟩, fun r hr => by simp [idRows, intRows] at hr⟩
        exact ⟨by simp [idRows, intRows], Nat.le_refl _, B2, by simp [idRows, intRows], by unfold maxLen; omega, by simp, by simp [idRows, intRows]⟩
      have hfr2 : Hid (∀ g, (Value.slice (some ⟨g2, 0, none⟩) 0 0).ownBlock = some g → g = g2 ∨ wa.heap.size ≤ g) := fun g h => by
        simp only [Value.ownBlock, Option.some.injEq] at h
        exact .inl h.symm
      have BA := BAw
      have BR := BRw
      have hga : g2 < wa.heap.size := B2.lt
      clear acc hfr B2 bN BAw BRw q
      go_loopw [4, 6] (fun o i W => ∃ k : Nat, k ≤ E ∧ i = .int .i64 k ∧ Below g1 wa W ∧ IntsOwn g1 W (.slice av b.nodes.length cv) (idL b.nodes.length) ∧ Acc W g2 3 1 o (idRows E k) ∧ Hid (∀ g, o.ownBlock = some g → g = g2 ∨ wa.heap.size ≤ g)) (fun _ i _ => E - (intOf i).toNat)
      case atStart => exact ⟨0, Nat.zero_le _, rfl, Below.refl _ _, hto, acc2, hfr2⟩
      case round =>
        clear acc2 hto hfr2
        obtain ⟨k, hk, rfl, bN, hto, acc, hfr⟩ := hrel
        obtain ⟨av2, cv2, rfl⟩ := acc.shape
        have HL : Hid ((idRows E k).length = k) := idRows_len hk
        rw [HL.out] at acc hfr ⊢
        have BAw := BA.keep (bN.block _ (by omega))
        have q := BAw.cell
        have hsw := bN.size
        by_cases hkl : (k : Int) < b.edges
        · have hkE : k < E := by have := HE.out; omega
          have HT := Lib.hid (idRows_snoc hkE)
          have bx := balloc wr (.cells #[.int .i64 k] 3)
          go_wp2_with (at_builtin; refine appR _ rfl (.tmp 26) (.tmp 28) 24 rfl g2 3 1 8 1 (.int .i64 0) Tryz.underlying24 inf_int rfl (by decide) (by decide) _ (idRows E k) (by rfl) (acc.below bx) _ [[.int .i64 k]] (by rfl) (rowAt_one (row := [.int .i64 k]) (heap_alloc_new _ _) (by decide)) (by simp [Value.oneCell']) (by rw [HL.out]; simp; omega) (by simp; omega) ?_)
          intro v2 w5 acc2 hg hf2
          rw [← HT.out] at acc2
          obtain ⟨av3, cv3, rfl⟩ := acc2.shape
          rw [idRows_len (by omega)] at acc2 hf2 ⊢
          have bN2 := grown_below (bN.trans (bx.mono (by omega))) (acc.below bx) hg (by omega) (by have := bx.size; omega)
          have hto2 := (hto.keep (keep_below bx (fun p hp => (hto.lt p hp).2))).keep (w' := w5) (fun p hp => hg.block p (Nat.lt_of_lt_of_le (hto.lt p hp).2 bx.size) (fun e => by
            have h1 := hlo.out p hp
            rcases hfr.out p e.symm with h | h <;> omega))
          have hfr2 : Hid (∀ g, (Value.slice av3 (k + 1) cv3).ownBlock = some g → g = g2 ∨ wa.heap.size ≤ g) := by
            intro g e
            rcases hf2 with h | h
            · rw [h] at e; exact hfr.out g e
            · rw [h] at e
              have := Option.some.inj e
              have hb' := bx.size
              omega
          clear acc hg hf2 bN hto hfr bx q
          go_wp2_with fail
          go_roundw
          case rel => exact ⟨k + 1, by omega, by go_num, bN2, hto2, acc2, hfr2⟩
          case measure => simp [intOf]; omega
        · have e : k = E := by have := HE.out; omega
          subst e
          rw [idRows_full] at acc
          have hed : IntsOwn g2 wr (.slice av2 k cv2) (idL k) := ⟨acc.own, by rw [idL_length]; have := HE.out; omega, fun x hx => by have := idL_mem hx; have := HE.out; unfold I64; omega⟩
          have hbw := hb.trans (bN.mono (by omega))
          have hto' := hto.at
          have hed' := hed.at
          have BRw := BR.keep (bN.block _ (by omega))
          have HC := HCT.out _ _ _ (HB0.out.below hbw) hto' hed'
          rw [HID.out] at HC
          have HC := Lib.hid HC
          clear acc hto hed hto' hed' hfr
          go_wp2_with fail
          refine HC.out.mono ?_
          rintro e w6 ⟨u, bs, rfl, hB, hN, b6⟩
          obtain ⟨d1, e1, d2, e2, d3, e3, d4, e4, rfl⟩ := hB.at.shape
          have BR6 := BRw.below b6
          have q2 := BR6.cell
          have f2 := BR6.free
          have hb6 := bthen hbw b6
          have hs6 : w.heap.size + 2 ≤ wr.heap.size := by have := bN.size; omega
          clear HC q
          go_wp2_with fail
          refine bodyPost_ret (v := .agg #[.int .i64 b.roots, .slice d1 b.nodes.length e1, .slice d2 b.sites.length e2, .int .i64 b.edges, .slice d3 b.outer.length e3, .slice d4 b.inner.length e4]) (by simp [results, Tryz.results147, go_sem, q2]) rfl ⟨_, bs, rfl, (fill6 hB (by omega) _ _ _ _ _ _).mono (by omega), hN, fill6b hb6 (by omega) _ _ _ _ _ _⟩
end Go.Proofs.YthbdmcobpcoajaaGreatDoor
