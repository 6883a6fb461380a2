/- A name for each point: the program's. -/
import Derived.Test.YthbdmcobpcoajaaGreatDoorDiscP
import Derived.Test.YthbdmcobpcoajaaGreatDoorOwnB
import Derived.Test.YthbdmcobpcoajaaGreatDoorRenB
import Derived.Test.YthbdmcobpcoajaaGreatDoorGoodI
import Derived.Test.YthbdmcobpcoajaaGreatDoorG4
import Derived.Test.YthbdmcobpcoajaaGreatDoorDiscS
import Derived.Test.YthbdmcobpcoajaaGreatDoorRelink
import Derived.Deep.RegionHeld3
namespace Go.Proofs.YthbdmcobpcoajaaGreatDoor
open Go Go.RowKit Go.BigFrame
def ownL (v : Value) : List Nat := v.ownBlock.toList
theorem Only.grownL {bs : List Nat} {a b c : World} {v : Value} (h : Only bs a b) (hg : b.grownBy c v.ownBlock) (hm : ∀ g ∈ ownL v, g ∈ bs) : Only bs a c :=
  h.trans ⟨hg.os, hg.tape, hg.output, hg.size, fun k hk hn => hg.block k hk (fun e => hn (hm k (by unfold ownL; rw [← e]; simp)))⟩
theorem Acc.ownL_lt {w : World} {base e sz : Nat} {v : Value} {cs : List (List Value)} (h : Acc w base e sz v cs) : ∀ g ∈ ownL v, base ≤ g ∧ g < w.heap.size := by
  intro g hg
  unfold ownL at hg
  rw [Option.mem_toList] at hg
  exact ⟨(h.1.lt g hg).1, h.lt1 g hg⟩
theorem Acc.ownL_ne {w : World} {base e sz : Nat} {v : Value} {cs : List (List Value)} (h : Acc w base e sz v cs) {g : Nat} {c : Array Value} {t : TypeId} (B : Box w g c t) (hne : t ≠ e) : g ∉ ownL v := by
  intro hg
  unfold ownL at hg
  rw [Option.mem_toList] at hg
  obtain ⟨cur, hc⟩ := h.cells g hg
  unfold Box at B
  rw [B] at hc
  simp at hc
  exact hne hc.2
theorem wrap97 {k : Nat} (h : k < 64) : IntKind.i32.wrap (97 + (k : Int)) = 97 + (k : Int) := by
  have : ∀ x : Fin 64, IntKind.i32.wrap (97 + (x.val : Int)) = 97 + (x.val : Int) := by decide +kernel
  exact this ⟨k, h⟩
set_option maxRecDepth 100000 in
set_option maxHeartbeats 1000000 in
theorem pointName_ct (k : Nat) (hk : k < 64) (w : World) : Calls Tryz.prog 102 #[.int .i64 (k : Int)] w fun e w' => e = .returned (.string (ptN k)) ∧ w' = w := by
  have h1 := wrap97 hk
  have h2 : (Utf8.encode (97 + (k : Int))).size ≤ 4 := by
    have : ∀ x : Fin 64, (Utf8.encode (97 + (x.val : Int))).size ≤ 4 := by decide +kernel
    exact this ⟨k, hk⟩
  go_enter Tryz.func102, Tryz.ntmps102
  go_wp2_with fail
  go_ret
  exact ⟨rfl, rfl⟩
set_option maxRecDepth 100000 in
set_option maxHeartbeats 4000000 in
theorem point_ct (LL : List Int) (k : Nat) (l : Int) (gO gW n6 : Nat) (r0 vn vs e0 vi z0 z1 z2 z3 z4 : Value) (oa wa : Option Addr) (oc wc : Nat) (W : World) (hk : k < 60) (hl : LL[k]? = some l)
    (BO : Box W gO #[r0, vn, vs, e0, .slice oa k oc, vi] 34) (BW : Box W gW #[z0, z1, z2, z3, z4, .slice wa k wc] 34) (ao : Acc W n6 9 1 (.slice oa k oc) (strRows (pts k))) (aw : Acc W n6 84 2 (.slice wa k wc) (wdR LL k)) (hne : gO ≠ gW) (hgO : gO < n6) (hgW : gW < n6) (hs : n6 ≤ W.heap.size) :
    Calls Tryz.prog 101 #[.int .i64 l, .pointer (some ⟨gO, 0, none⟩), .pointer (some ⟨gW, 0, none⟩)] W fun e w' => e = .returned (.int .i64 (k : Int)) ∧ ∃ oa' oc' wa' wc', Box w' gO #[r0, vn, vs, e0, .slice oa' (k + 1) oc', vi] 34 ∧ Box w' gW #[z0, z1, z2, z3, z4, .slice wa' (k + 1) wc'] 34 ∧ Acc w' n6 9 1 (.slice oa' (k + 1) oc') (strRows (pts (k + 1))) ∧ Acc w' n6 84 2 (.slice wa' (k + 1) wc') (wdR LL (k + 1)) ∧ Only (gO :: gW :: (ownL (.slice oa k oc) ++ ownL (.slice wa k wc))) W w' := by
  have hkl := (List.getElem?_eq_some_iff.1 hl).1
  have HTO := Lib.hid (ptsR_succ k)
  have HTW := Lib.hid (wdR_succ hl)
  have HLO := Lib.hid (ptsR_len k)
  have HLO1 := Lib.hid (ptsR_len (k + 1))
  have HLW := Lib.hid (wdR_len (show k ≤ LL.length by omega))
  have HLW1 := Lib.hid (wdR_len (show k + 1 ≤ LL.length by omega))
  have q := BO.cell
  clear hl
  go_enter Tryz.func101, Tryz.ntmps101
  go_wp2_with fail
  clear q
  have gO4 := fun y => gr_cell (w := W) (BO.cell 4) y
  refine rg_region [0, 1, 2, 3, 4] [5, 6, 7] (lo := (.cons _ (.cons _ (.cons _ .nil)))) (by rfl) (tAt 3 (eVal (.string (ptN k))) (tAt 4 (eLit1 [.string (ptN k)] 9) tNil)) (by kernel_rfl) (by rfl) (by kernel_rfl) ?_
  refine rg_quiet anti_end [0, 1, 2] [3, 4] (lo := (.cons _ (.cons _ (.cons _ .nil)))) (by rfl) (by kernel_rfl) ?_
  repeat (go_big_quiet_step (fail))
  refine wpQuiet_nil ?_
  refine rg_call 3 rfl rfl 102 #[.int .i64 (k : Int)] ?_ ?_ ?_
  · intro w; simp [go_sem]
  · rintro w' ⟨y, rfl⟩ hd
    refine (pointName_ct k (by omega) _).mono ?_
    rintro e w3 ⟨rfl, rfl⟩
    exact ⟨_, rfl, Below.refl _ _, rfl⟩
  intro v hv
  obtain rfl : v = .string (ptN k) := hv
  simp only [Act.put, List.setIfInBounds_toArray, List.set_cons_zero, List.set_cons_succ]
  refine rg_made 4 rfl rfl ?_ ?_
  · rintro w' ⟨y, rfl⟩ hd
    exact ⟨_, _, by simp [go_sem]; try exact ⟨rfl, rfl⟩, balloc _ _, _, rfl, Box.new _ _ _, Nat.le_refl _, by simp⟩
  intro v hv
  obtain ⟨gl, rfl⟩ : ∃ g, v = .slice (some ⟨g, 0, none⟩) 1 1 := hv
  simp only [Act.put, List.setIfInBounds_toArray, List.set_cons_zero, List.set_cons_succ]
  intro w4 U4 hb4 hF
  obtain ⟨_, _, _, _, _, hF⟩ := hF
  obtain ⟨gl', e1, BL, _⟩ : ∃ g, Value.slice (some ⟨gl, 0, none⟩) 1 1 = .slice (some ⟨g, 0, none⟩) 1 1 ∧ Box w4 g #[.string (ptN k)] 9 ∧ _ := hF
  obtain rfl : gl = gl' := by simpa using e1
  clear e1 gO4
  have BO := BO.below hb4
  have BW := BW.below hb4
  have ao := ao.below hb4
  have aw := aw.below hb4
  have hs := Nat.le_trans hs hb4.size
  have oo := Only.of_below hb4 (gO :: gW :: (ownL (.slice oa k oc) ++ ownL (.slice wa k wc)))
  go_wp2_with (at_builtin; refine appR _ rfl (.tmp 10) (.tmp 13) 25 rfl n6 9 1 16 1 (.string ⟨#[]⟩) Tryz.underlying25 inf_str rfl (by decide) (by decide) _ (strRows (pts k)) (by rfl) ao _ [[.string (ptN k)]] (by rfl) (rowAt_one (row := [.string (ptN k)]) BL (by decide)) (by simp [Value.oneCell']) (by rw [HLO.out]; simp; omega) hs ?_)
  intro v2 w5 ao2 hg _
  rw [← HTO.out] at ao2
  obtain ⟨oa2, oc2, rfl⟩ := ao2.shape
  rw [HLO1.out] at ao2 ⊢
  have aw2 := aw.beside ao (by decide) hg
  have BO2 := BO.keep (grown_block ao hg hgO BO.lt)
  have BW2 := BW.keep (grown_block ao hg hgW BW.lt)
  have oo2 := oo.grownL hg (fun g hg => by simp [hg])
  have hs2 := Nat.le_trans hs hg.size
  clear ao aw BO BW oo hg hs BL hb4
  have q := BO2.cell
  have f := BO2.free
  go_wp2_with fail
  clear q f
  obtain ⟨w6, hw6⟩ : ∃ X, X = w5.setCell ⟨gO, 4, none⟩ (.slice oa2 (k + 1) oc2) := ⟨_, rfl⟩
  have BO3 : Box w6 gO #[r0, vn, vs, e0, .slice oa2 (k + 1) oc2, vi] 34 := by rw [hw6]; exact BO2.set 4 _
  have BW3 : Box w6 gW #[z0, z1, z2, z3, z4, .slice wa k wc] 34 := by rw [hw6]; exact BW2.other _ (by dsimp only; omega)
  have ao3 : Acc w6 n6 9 1 (.slice oa2 (k + 1) oc2) (strRows (pts (k + 1))) := by rw [hw6]; exact ao2.keep (fun j hj _ => heap_setCell_other _ _ _ _ (by dsimp only; omega))
  have aw3 : Acc w6 n6 84 2 (.slice wa k wc) (wdR LL k) := by rw [hw6]; exact aw2.keep (fun j hj _ => heap_setCell_other _ _ _ _ (by dsimp only; omega))
  have oo3 : Only (gO :: gW :: (ownL (.slice oa k oc) ++ ownL (.slice wa k wc))) W w6 := by rw [hw6]; exact oo2.setCell (by simp) _
  have hs3 : n6 ≤ w6.heap.size := by rw [hw6, size_setCell]; exact hs2
  first | rw [← hw6] | fail "w6"
  clear hw6 BO2 BW2 ao2 aw2 oo2 hs2
  have gW5 := fun y => gr_cell (w := w6) (BW3.cell 5) y
  refine rg_region [0, 1, 2, 3, 4, 5, 6] [7, 8, 9] (lo := (.cons _ (.cons _ (.cons _ .nil)))) (by rfl) (tAt 3 (eVal (.string (ptN k))) (tAt 6 (eLit1 [.string (ptN k), .int .i64 l] 84) tNil)) (by kernel_rfl) (by rfl) (by kernel_rfl) ?_
  refine rg_quiet anti_end [0, 1, 2] [3, 4, 5, 6] (lo := (.cons _ (.cons _ (.cons _ .nil)))) (by rfl) (by kernel_rfl) ?_
  repeat (go_big_quiet_step (fail))
  refine wpQuiet_nil ?_
  refine rg_call 3 rfl rfl 102 #[.int .i64 (k : Int)] ?_ ?_ ?_
  · intro w; simp [go_sem]
  · rintro w' ⟨y, rfl⟩ hd
    refine (pointName_ct k (by omega) _).mono ?_
    rintro e w3 ⟨rfl, rfl⟩
    exact ⟨_, rfl, Below.refl _ _, rfl⟩
  intro v hv
  obtain rfl : v = .string (ptN k) := hv
  simp only [Act.put, List.setIfInBounds_toArray, List.set_cons_zero, List.set_cons_succ]
  refine rg_quiet anti_end [4, 5] [6] (lo := (.cons _ (.cons _ .nil))) (by rfl) (by kernel_rfl) ?_
  repeat (go_big_quiet_step (fail))
  refine wpQuiet_nil ?_
  refine rg_made 6 rfl rfl ?_ ?_
  · rintro w' ⟨y, rfl⟩ hd
    exact ⟨_, _, by simp [go_sem]; try exact ⟨rfl, rfl⟩, balloc _ _, _, rfl, Box.new _ _ _, Nat.le_refl _, by simp⟩
  intro v hv
  obtain ⟨gm, rfl⟩ : ∃ g, v = .slice (some ⟨g, 0, none⟩) 1 1 := hv
  simp only [Act.put, List.setIfInBounds_toArray, List.set_cons_zero, List.set_cons_succ]
  intro w7 U7 hb7 hF
  obtain ⟨_, _, _, _, _, hF⟩ := hF
  obtain ⟨gl', e1, BL, _⟩ : ∃ g, Value.slice (some ⟨gm, 0, none⟩) 1 1 = .slice (some ⟨g, 0, none⟩) 1 1 ∧ Box w7 g #[.string (ptN k), .int .i64 l] 84 ∧ _ := hF
  obtain rfl : gm = gl' := by simpa using e1
  clear e1 gW5
  have BO := BO3.below hb7
  have BW := BW3.below hb7
  have ao := ao3.below hb7
  have aw := aw3.below hb7
  have hs := Nat.le_trans hs3 hb7.size
  have oo := oo3.then_below hb7
  go_wp2_with (at_builtin; refine appR _ rfl (.tmp 17) (.tmp 22) 32 rfl n6 84 2 24 1 (.agg #[.string ⟨#[]⟩, .int .i64 0]) Tryz.underlying32 inf_wr rfl (by decide) (by decide) _ (wdR LL k) (by rfl) aw _ [[.string (ptN k), .int .i64 l]] (by rfl) (rowAt_one (row := [.string (ptN k), .int .i64 l]) BL (by decide)) (by simp [Value.oneCell']) (by rw [HLW.out]; simp; omega) hs ?_)
  intro v3 w8 aw8 hg _
  rw [← HTW.out] at aw8
  obtain ⟨wa2, wc2, rfl⟩ := aw8.shape
  rw [HLW1.out] at aw8 ⊢
  have ao8 := ao.beside aw (by decide) hg
  have BO8 := BO.keep (grown_block aw hg hgO BO.lt)
  have BW8 := BW.keep (grown_block aw hg hgW BW.lt)
  have oo8 := oo.grownL hg (fun g hg => by simp [hg])
  clear ao aw BO BW oo hg hs BL hb7 BO3 BW3 ao3 aw3 oo3 hs3
  have q := BW8.cell
  have f := BW8.free
  go_wp2_with fail
  go_ret
  exact ⟨rfl, oa2, oc2, wa2, wc2, BO8.other _ (by dsimp only; omega), BW8.set 5 _, ao8.keep (fun j hj _ => heap_setCell_other _ _ _ _ (by dsimp only; omega)), aw8.keep (fun j hj _ => heap_setCell_other _ _ _ _ (by dsimp only; omega)), oo8.setCell (by simp) _⟩
/-- What the walk holds: the two results in the making; c points have been named. -/
structure DSt (w : World) (b : Big) (n0 n6 gO gW : Nat) (cA : Array Value) (v1 v2 v4 vo : Value) (W : World) (c : Nat) : Prop where
  hb : Below w.heap.size w W
  hs : n6 ≤ W.heap.size
  BA : Box W w.heap.size cA 34
  BR : Box W (w.heap.size + 1) #[.int .i64 0, .slice none 0 0, .slice none 0 0, .int .i64 0, .slice none 0 0, .slice none 0 0] 34
  BS : Box W (w.heap.size + 2) #[.int .i64 0, .slice none 0 0, .slice none 0 0, .int .i64 0, .slice none 0 0, .slice none 0 0] 34
  hso : RowOwn n0 W vo 1 (strRows b.outer)
  ex : ∃ oa oc wa wc, Box W gO #[.int .i64 b.roots, v1, v2, .int .i64 0, .slice oa c oc, v4] 34 ∧ Box W gW #[.int .i64 0, .slice none 0 0, .slice none 0 0, .int .i64 b.edges, vo, .slice wa c wc] 34 ∧ Acc W n6 9 1 (.slice oa c oc) (strRows (pts c)) ∧ Acc W n6 84 2 (.slice wa c wc) (wdR (linksD b) c)
theorem DSt.below {w : World} {b : Big} {n0 n6 gO gW : Nat} {cA : Array Value} {v1 v2 v4 vo : Value} {W W' : World} {c : Nat} (h : DSt w b n0 n6 gO gW cA v1 v2 v4 vo W c) (hx : Below W.heap.size W W') : DSt w b n0 n6 gO gW cA v1 v2 v4 vo W' c := by
  obtain ⟨oa, oc, wa, wc, BO, BW, ao, aw⟩ := h.ex
  exact ⟨bthen h.hb hx, Nat.le_trans h.hs hx.size, h.BA.below hx, h.BR.below hx, h.BS.below hx, h.hso.keep (keep_below hx (fun p hp => (h.hso.lt p hp).2)), oa, oc, wa, wc, BO.below hx, BW.below hx, ao.below hx, aw.below hx⟩
/-- A store elsewhere. -/
theorem DSt.set {w : World} {b : Big} {n0 n6 gO gW : Nat} {cA : Array Value} {v1 v2 v4 vo : Value} {W : World} {c : Nat} (h : DSt w b n0 n6 gO gW cA v1 v2 v4 vo W c) {gl j : Nat} (u : Value) (h1 : w.heap.size + 3 ≤ gl) (h2 : gl < n6) (h3 : gl ≠ gO) (h4 : gl ≠ gW) (h5 : gl ∉ blks vo) : DSt w b n0 n6 gO gW cA v1 v2 v4 vo (W.setCell ⟨gl, j, none⟩ u) c := by
  obtain ⟨oa, oc, wa, wc, BO, BW, ao, aw⟩ := h.ex
  exact ⟨h.hb.setCell (by dsimp only; omega) _, by rw [size_setCell]; exact h.hs, h.BA.other _ (by dsimp only; omega), h.BR.other _ (by dsimp only; omega), h.BS.other _ (by dsimp only; omega), h.hso.keep (keep_setCell h5), oa, oc, wa, wc, BO.other _ (by dsimp only; omega), BW.other _ (by dsimp only; omega), ao.keep (fun j hj _ => heap_setCell_other _ _ _ _ (by dsimp only; omega)), aw.keep (fun j hj _ => heap_setCell_other _ _ _ _ (by dsimp only; omega))⟩
theorem DSt.point {w : World} {b : Big} {n0 n6 gO gW : Nat} {cA : Array Value} {v1 v2 v4 vo : Value} {W0 W : World} {c : Nat} {l : Int} (h : DSt w b n0 n6 gO gW cA v1 v2 v4 vo W0 c) (hx : Below W0.heap.size W0 W) (hl : (linksD b)[c]? = some l) (hc : c < 60) (hne : gO ≠ gW) (hgO : w.heap.size + 3 ≤ gO ∧ gO < n6) (hgW : w.heap.size + 3 ≤ gW ∧ gW < n6) (hvo : ∀ p ∈ blks vo, p < n6 ∧ p ≠ gO ∧ p ≠ gW) :
    Calls Tryz.prog 101 #[.int .i64 l, .pointer (some ⟨gO, 0, none⟩), .pointer (some ⟨gW, 0, none⟩)] W fun e w' => e = .returned (.int .i64 (c : Int)) ∧ DSt w b n0 n6 gO gW cA v1 v2 v4 vo w' (c + 1) ∧ ∃ L : List Nat, Only L W w' ∧ ∀ q ∈ L, q = gO ∨ q = gW ∨ (n6 ≤ q ∧ q < W0.heap.size ∧ ∃ cur e, W0.heap[q]? = some (.cells cur e (0, 0)) ∧ (e = 9 ∨ e = 84)) := by
  obtain ⟨oa, oc, wa, wc, BO, BW, ao, aw⟩ := h.ex
  have h' := h.below hx
  refine (point_ct (linksD b) c l gO gW n6 _ _ _ _ _ _ _ _ _ _ oa wa oc wc W hc hl (BO.below hx) (BW.below hx) (ao.below hx) (aw.below hx) hne hgO.2 hgW.2 h'.hs).mono ?_
  rintro e w' ⟨rfl, oa', oc', wa', wc', BO', BW', ao', aw', oo⟩
  have hL : ∀ q ∈ gO :: gW :: (ownL (.slice oa c oc) ++ ownL (.slice wa c wc)), q = gO ∨ q = gW ∨ (n6 ≤ q ∧ q < W0.heap.size ∧ ∃ cur e, W0.heap[q]? = some (.cells cur e (0, 0)) ∧ (e = 9 ∨ e = 84)) := by
    intro q hq
    simp only [List.mem_cons, List.mem_append] at hq
    rcases hq with h1 | h1 | h1 | h1
    · exact .inl h1
    · exact .inr (.inl h1)
    · have h2 := ao.ownL_lt q h1
      unfold ownL at h1
      rw [Option.mem_toList] at h1
      obtain ⟨cur, hcur⟩ := ao.cells q h1
      exact .inr (.inr ⟨h2.1, h2.2, cur, _, hcur, .inl rfl⟩)
    · have h2 := aw.ownL_lt q h1
      unfold ownL at h1
      rw [Option.mem_toList] at h1
      obtain ⟨cur, hcur⟩ := aw.cells q h1
      exact .inr (.inr ⟨h2.1, h2.2, cur, _, hcur, .inr rfl⟩)
  have hlo : ∀ q ∈ gO :: gW :: (ownL (.slice oa c oc) ++ ownL (.slice wa c wc)), w.heap.size + 3 ≤ q := fun q hq => by
    rcases hL q hq with h1 | h1 | h1 <;> omega
  have hk : ∀ p, p < W.heap.size → (∀ q ∈ gO :: gW :: (ownL (.slice oa c oc) ++ ownL (.slice wa c wc)), p ≠ q) → w'.heap[p]? = W.heap[p]? := fun p hp hn => oo.block p hp (fun hm => hn p hm rfl)
  refine ⟨rfl, ⟨h'.hb.trans (oo.below (B := w.heap.size) (fun q hq => by have := hlo q hq; omega) (by have := h'.hb.size; omega)), Nat.le_trans h'.hs oo.size, h'.BA.keep (hk _ h'.BA.lt (fun q hq => by have := hlo q hq; omega)), h'.BR.keep (hk _ h'.BR.lt (fun q hq => by have := hlo q hq; omega)), h'.BS.keep (hk _ h'.BS.lt (fun q hq => by have := hlo q hq; omega)), h'.hso.keep (fun p hp => hk p (h'.hso.lt p hp).2 (fun q hq e => ?_)), oa', oc', wa', wc', BO', BW', ao', aw'⟩, _, oo, hL⟩
  have hv := hvo p hp
  rcases hL q hq with h1 | h1 | h1 <;> omega
theorem gx_out {gx n6 gO gW : Nat} {W0 : World} {c : Array Value} {L : List Nat} (BX : Box W0 gx c 100) (h6 : n6 ≤ gx) (hO : gO < n6) (hW : gW < n6) (hL : ∀ q ∈ L, q = gO ∨ q = gW ∨ (n6 ≤ q ∧ q < W0.heap.size ∧ ∃ cur e, W0.heap[q]? = some (.cells cur e (0, 0)) ∧ (e = 9 ∨ e = 84))) : gx ∉ L := by
  intro hm
  rcases hL gx hm with h | h | ⟨_, _, cur, e, h, he⟩
  · omega
  · omega
  · unfold Box at BX
    rw [BX] at h
    simp at h
    rw [← h.2] at he
    revert he; decide
theorem bs_out {p n0 n6 gO gW : Nat} {vo : Value} {W0 : World} {L : List Nat} (h : n0 ≤ p ∧ p < n6 ∧ p ≠ gO ∧ p ≠ gW ∧ p ∉ blks vo) (hL : ∀ q ∈ L, q = gO ∨ q = gW ∨ (n6 ≤ q ∧ q < W0.heap.size ∧ ∃ cur e, W0.heap[q]? = some (.cells cur e (0, 0)) ∧ (e = 9 ∨ e = 84))) : p ∉ L := by
  intro hm
  obtain ⟨_, h2, h3, h4, _⟩ := h
  rcases hL p hm with h | h | h
  · exact h3 h
  · exact h4 h
  · omega
theorem gx_new {gx n6 gO gW : Nat} {W0 : World} {L : List Nat} (h6 : n6 ≤ gx) (hO : gO < n6) (hW : gW < n6) (hx : W0.heap.size ≤ gx) (hL : ∀ q ∈ L, q = gO ∨ q = gW ∨ (n6 ≤ q ∧ q < W0.heap.size ∧ ∃ cur e, W0.heap[q]? = some (.cells cur e (0, 0)) ∧ (e = 9 ∨ e = 84))) : gx ∉ L := by
  intro hm
  rcases hL gx hm with h | h | h <;> omega
theorem gO_ne {gl n0 n6 gO gW j : Nat} {vo : Value} (h : n0 ≤ gl ∧ gl < n6 ∧ gl ≠ gO ∧ gl ≠ gW ∧ gl ∉ blks vo) : gO ≠ (⟨gl, j, none⟩ : Addr).block := fun e => h.2.2.1 e.symm
theorem Box.other6 {W : World} {g r : Nat} {cs : Array Value} {t : TypeId} (h : Box W g cs t) (hr : g ≠ r) (u0 u1 u2 u3 u4 u5 : Value) : Box ((((((W.setCell ⟨r, 0, none⟩ u0).setCell ⟨r, 1, none⟩ u1).setCell ⟨r, 2, none⟩ u2).setCell ⟨r, 3, none⟩ u3).setCell ⟨r, 4, none⟩ u4).setCell ⟨r, 5, none⟩ u5) g cs t :=
  (((((h.other _ hr).other _ hr).other _ hr).other _ hr).other _ hr).other _ hr
theorem six2d {W : World} {g k : Nat} {a0 a1 a2 a3 a4 a5 b0 b1 b2 b3 b4 b5 : Value} {s t : TypeId} (h : Box W g #[a0, a1, a2, a3, a4, a5] s) (h' : Box W k #[b0, b1, b2, b3, b4, b5] t) :
    W.drew.cell? ⟨g, 0, none⟩ = some a0 ∧ W.drew.cell? ⟨g, 1, none⟩ = some a1 ∧ W.drew.cell? ⟨g, 2, none⟩ = some a2 ∧ W.drew.cell? ⟨g, 3, none⟩ = some a3 ∧ W.drew.cell? ⟨g, 4, none⟩ = some a4 ∧ W.drew.cell? ⟨g, 5, none⟩ = some a5 ∧ W.drew.cell? ⟨k, 0, none⟩ = some b0 ∧ W.drew.cell? ⟨k, 1, none⟩ = some b1 ∧ W.drew.cell? ⟨k, 2, none⟩ = some b2 ∧ W.drew.cell? ⟨k, 3, none⟩ = some b3 ∧ W.drew.cell? ⟨k, 4, none⟩ = some b4 ∧ W.drew.cell? ⟨k, 5, none⟩ = some b5 :=
  ⟨h.cell 0, h.cell 1, h.cell 2, h.cell 3, h.cell 4, h.cell 5, h'.cell 0, h'.cell 1, h'.cell 2, h'.cell 3, h'.cell 4, h'.cell 5⟩
theorem gl_ne {gx gl n0 n6 gO gW j : Nat} {vo : Value} (h6 : n6 ≤ gx) (h : n0 ≤ gl ∧ gl < n6 ∧ gl ≠ gO ∧ gl ≠ gW ∧ gl ∉ blks vo) : gx ≠ (⟨gl, j, none⟩ : Addr).block := by
  dsimp only; omega
set_option maxRecDepth 100000 in
set_option maxHeartbeats 16000000 in
theorem implDiscreteOf_ct (vs v : Value) (sig : List Ctl) (b : Big) (w : World) (h : Ctx w vs v sig b) : Calls Tryz.prog 31 #[vs, v] w (GivesBig2 (dscW sig b) (dscO sig b) (dscC sig b) w) := by
  obtain ⟨a1, c1, a2, c2, a3, c3, a4, c4, rfl⟩ := h.big.shape
  obtain ⟨W0, hW0⟩ : ∃ W, W = ((w.alloc (.cells #[.int .i64 b.roots, .slice a1 b.nodes.length c1, .slice a2 b.sites.length c2, .int .i64 b.edges, .slice a3 b.outer.length c3, .slice a4 b.inner.length c4] 34)).alloc (.cells #[.int .i64 0, .slice none 0 0, .slice none 0 0, .int .i64 0, .slice none 0 0, .slice none 0 0] 34)).alloc (.cells #[.int .i64 0, .slice none 0 0, .slice none 0 0, .int .i64 0, .slice none 0 0, .slice none 0 0] 34) := ⟨_, rfl⟩
  have hA : Below w.heap.size w W0 := by rw [hW0]; exact bthen (bthen (balloc _ _) (balloc _ _)) (balloc _ _)
  have BA : Box W0 w.heap.size #[.int .i64 b.roots, .slice a1 b.nodes.length c1, .slice a2 b.sites.length c2, .int .i64 b.edges, .slice a3 b.outer.length c3, .slice a4 b.inner.length c4] 34 := by rw [hW0]; exact ((Box.new _ _ _).alloc _).alloc _
  have BR : Box W0 (w.heap.size + 1) #[.int .i64 0, .slice none 0 0, .slice none 0 0, .int .i64 0, .slice none 0 0, .slice none 0 0] 34 := by rw [hW0]; exact (Box.new' _ _ _ (by simp)).alloc _
  have BS : Box W0 (w.heap.size + 2) #[.int .i64 0, .slice none 0 0, .slice none 0 0, .int .i64 0, .slice none 0 0, .slice none 0 0] 34 := by rw [hW0]; exact Box.new' _ _ _ (by simp)
  cases hg : goodB sig b with
  | false =>
    have hC : dscC sig b = false := by unfold dscC; rw [hg]; rfl
    rw [dscW_no hC, dscO_no hC, hC]
    clear hC
    go_enter Tryz.func31, Tryz.ntmps31
    go_wp2_with fail
    rw [← hW0]
    clear hW0
    refine (implIsBigraph_ct _ _ sig b false _ (h.below hA) hg).mono ?_
    rintro e w2 ⟨rfl, hb⟩
    have BA := BA.below hb
    have BR := BR.below hb
    have BS := BS.below hb
    have hb := bthen hA hb
    clear hg h hA
    have q := BR.cell
    have f := BR.free
    have q2 := BS.cell
    have f2 := BS.free
    go_wp2_with fail
    refine bodyPost_ret (v := .tuple #[.agg #[.int .i64 0, .slice none 0 0, .slice none 0 0, .int .i64 0, .slice none 0 0, .slice none 0 0], .agg #[.int .i64 0, .slice none 0 0, .slice none 0 0, .int .i64 0, .slice none 0 0, .slice none 0 0], .bool false]) (by simp [results, Tryz.results31, go_sem, q, q2]) rfl (noBig2 ?_)
    iterate 12 refine Below.setCell ?_ (by dsimp only; omega) _
    exact hb
  | true =>
    have hG := good_of hg
    have hD := hG.bds
    have HD := Lib.hid hD
    have HBIG := Lib.hid h.big
    have hol := hD.outer
    have hnl := hD.nodes
    have hil := hD.inner
    obtain ⟨_, _, _, _, _, _, _, _, e0, _, _, h3, _, _, _⟩ := h.big.parts
    simp only [Value.agg.injEq, Array.mk.injEq, List.cons.injEq, and_true, true_and, Value.slice.injEq] at e0
    obtain ⟨⟨rfl, rfl⟩, ⟨rfl, rfl⟩, ⟨rfl, rfl⟩, rfl, rfl⟩ := e0
    have H3 := Lib.hid h3
    have HGD := Lib.hid hg
    have HOBG := Lib.hid (fun W (h : BigAt W (.agg #[.int .i64 b.roots, .slice a1 b.nodes.length c1, .slice a2 b.sites.length c2, .int .i64 b.edges, .slice a3 b.outer.length c3, .slice a4 b.inner.length c4]) b) => RgN.ownBigraph_ct _ b W h (by omega) (fun n hn => by have := hD.links n hn; omega) (by have := hD.sites; omega) hol (by omega))
    clear h3 hG hD
    go_enter Tryz.func31, Tryz.ntmps31
    go_wp2_with fail
    rw [← hW0]
    clear hW0
    refine (implIsBigraph_ct _ _ sig b true _ (h.below hA) hg).mono ?_
    rintro e w2 ⟨rfl, hb⟩
    have BA := BA.below hb
    have BR := BR.below hb
    have BS := BS.below hb
    have hb := bthen hA hb
    clear hg h hA
    have q := BA.cell
    go_wp2_with fail
    clear q
    have gA0 := fun y => gr_cell (w := w2) (BA.cell 0) y
    have gA1 := fun y => gr_cell (w := w2) (BA.cell 1) y
    have gA2 := fun y => gr_cell (w := w2) (BA.cell 2) y
    have gA3 := fun y => gr_cell (w := w2) (BA.cell 3) y
    have gA4 := fun y => gr_cell (w := w2) (BA.cell 4) y
    have gA5 := fun y => gr_cell (w := w2) (BA.cell 5) y
    refine rg_region [0, 1, 2, 3, 4, 5, 6, 7, 8, 9] [10, 11] (lo := (.cons _ (.cons _ .nil))) (by rfl) (tAt 4 (eRow w2.heap.size 1 b.outer.length (strRows b.outer) (len_strRows _)) (tAt 7 (eBigOwn w2.heap.size b) (tAt 8 (ePtr w2.heap.size #[.int .i64 0, .slice none 0 0, .slice none 0 0, .int .i64 0, .slice none 0 0, .slice none 0 0] 34) (tAt 9 (ePtr w2.heap.size #[.int .i64 0, .slice none 0 0, .slice none 0 0, .int .i64 0, .slice none 0 0, .slice none 0 0] 34) tNil)))) (by kernel_rfl) (by rfl) (by kernel_rfl) ?_
    refine rg_quiet anti_end [0, 1, 2, 3] [4, 5, 6, 7, 8, 9] (lo := (.cons _ (.cons _ (.cons _ (.cons _ .nil))))) (by rfl) (by kernel_rfl) ?_
    repeat (go_big_quiet_step (fail))
    refine wpQuiet_nil ?_
    refine rg_call 4 rfl rfl 100 #[.slice a3 b.outer.length c3] ?_ ?_ ?_
    · intro w; simp [go_sem]
    · rintro w' ⟨y, rfl⟩ hd
      refine (clone_ct _ b.outer _ (H3.out.below (bthen hb (gr_below _ _))) hol).mono ?_
      rintro e w3 ⟨u1, rfl, hu1, bb⟩
      exact ⟨u1, rfl, bb, gRow_of hu1 (gr_below _ _).size⟩
    intro v hv
    obtain ⟨ka, kc, rfl⟩ : ∃ a c, v = .slice a b.outer.length c := hv
    simp only [Act.put, List.setIfInBounds_toArray, List.set_cons_zero, List.set_cons_succ]
    refine rg_quiet anti_end [5, 6] [7, 8, 9] (lo := (.cons _ (.cons _ .nil))) (by rfl) (by kernel_rfl) ?_
    repeat (go_big_quiet_step (fail))
    refine wpQuiet_nil ?_
    refine rg_call 7 rfl rfl 95 #[.agg #[.int .i64 b.roots, .slice a1 b.nodes.length c1, .slice a2 b.sites.length c2, .int .i64 b.edges, .slice a3 b.outer.length c3, .slice a4 b.inner.length c4]] ?_ ?_ ?_
    · intro w; simp [go_sem]
    · rintro w' ⟨y, rfl⟩ hd
      refine (HOBG.out _ (HBIG.out.below (bthen hb (gr_below _ _)))).mono ?_
      rintro e w3 ⟨u, bs, rfl, hB, hN, bb⟩
      exact ⟨_, rfl, bb, bs, hB.mono (gr_below _ _).size, hN, fun p hp => hB.lt p hp⟩
    intro v hv
    obtain ⟨d1, e1, d2, e2, d3, e3, d4, e4, rfl⟩ : bigSh b v := hv
    simp only [Act.put, List.setIfInBounds_toArray, List.set_cons_zero, List.set_cons_succ]
    refine rg_made 8 rfl rfl ?_ ?_
    · rintro w' ⟨y, rfl⟩ hd
      exact ⟨_, _, by simp [go_sem]; try exact ⟨rfl, rfl⟩, balloc _ _, _, rfl, Box.new _ _ _, (gr_below _ _).size, Nat.le_refl _, by simp⟩
    intro v hv
    obtain ⟨gW0, rfl⟩ : ∃ g, v = .pointer (some ⟨g, 0, none⟩) := hv
    simp only [Act.put, List.setIfInBounds_toArray, List.set_cons_zero, List.set_cons_succ]
    refine rg_made 9 rfl rfl ?_ ?_
    · rintro w' ⟨y, rfl⟩ hd
      exact ⟨_, _, by simp [go_sem]; try exact ⟨rfl, rfl⟩, balloc _ _, _, rfl, Box.new _ _ _, (gr_below _ _).size, Nat.le_refl _, by simp⟩
    intro v hv
    obtain ⟨gO0, rfl⟩ : ∃ g, v = .pointer (some ⟨g, 0, none⟩) := hv
    simp only [Act.put, List.setIfInBounds_toArray, List.set_cons_zero, List.set_cons_succ]
    intro w6 U hb6 hF
    obtain ⟨V1, V2, hd1, hs1, hF, gO, eO, BO0, hOl, hOU⟩ := hF
    obtain ⟨V3, V4, hd3, hs3, hF, gW, eW, BW0, hWl, hWU⟩ := hF
    obtain rfl : gO0 = gO := by simpa using eO
    obtain rfl : gW0 = gW := by simpa using eW
    obtain ⟨V5, V6, hd5, hs5, hF, hu2⟩ := hF
    obtain ⟨V7, V8, hd7, hs7, hF, hu1⟩ := hF
    obtain ⟨bs, hB, hN, hBU⟩ : gBig w2.heap.size b (.agg #[.int .i64 b.roots, .slice d1 b.nodes.length e1, .slice d2 b.sites.length e2, .int .i64 b.edges, .slice d3 b.outer.length e3, .slice d4 b.inner.length e4]) w6 V6 := hu2
    obtain ⟨hso0, hsU⟩ : gRow w2.heap.size 1 (strRows b.outer) (.slice ka b.outer.length kc) w6 V8 := hu1
    have hOW : gO0 ≠ gW0 := fun e => hd1 gO0 ((hs3 _).2 (.inr (e ▸ hWU))) hOU
    have hbO : ∀ p ∈ bs, p ≠ gO0 ∧ p ≠ gW0 := fun p hp => ⟨fun e => hd1 p ((hs3 p).2 (.inl ((hs5 p).2 (.inr (hBU p hp))))) (e ▸ hOU), fun e => hd3 p ((hs5 p).2 (.inr (hBU p hp))) (e ▸ hWU)⟩
    have hsO : ∀ p ∈ blks (.slice ka b.outer.length kc), p ≠ gO0 ∧ p ≠ gW0 ∧ p ∉ bs := fun p hp => ⟨fun e => hd1 p ((hs3 p).2 (.inl ((hs5 p).2 (.inl ((hs7 p).2 (.inr (hsU p hp))))))) (e ▸ hOU), fun e => hd3 p ((hs5 p).2 (.inl ((hs7 p).2 (.inr (hsU p hp))))) (e ▸ hWU), fun e => hd5 p ((hs7 p).2 (.inr (hsU p hp))) (hBU p e)⟩
    clear hF hd1 hs1 hd3 hs3 hd5 hs5 hd7 hs7 eO eW hOU hWU hBU hsU gA0 gA1 gA2 gA3 gA4 gA5
    have hs2 := BS.lt
    have BA := BA.below hb6
    have BR := BR.below hb6
    have BS := BS.below hb6
    have hb := bthen hb hb6
    have q := BO0.cell
    have f := BO0.free
    have q2 := BW0.cell
    have f2 := BW0.free
    go_wp2_with fail
    clear q f q2 f2
    obtain ⟨Y1, hY1, BW1, o1⟩ := box_fill BW0 (.int .i64 0) (.slice none 0 0) (.slice none 0 0) (.int .i64 b.edges) (.slice ka b.outer.length kc) (.slice none 0 0)
    first | rw [← hY1] | fail "y1"
    have BO1 := BO0.keep (o1.block _ BO0.lt (fun h => hOW (List.mem_singleton.1 h)))
    obtain ⟨Y2, hY2, BO2, o2⟩ := box_fill BO1 (.int .i64 b.roots) (.slice d1 b.nodes.length e1) (.slice d2 b.sites.length e2) (.int .i64 b.edges) (.slice d3 b.outer.length e3) (.slice d4 b.inner.length e4)
    first | rw [← hY2] | fail "y2"
    have BW2 := BW1.keep (o2.block _ BW1.lt (fun h => hOW (List.mem_singleton.1 h).symm))
    obtain ⟨W7, hW7⟩ : ∃ W, W = (Y2.setCell ⟨gO0, 3, none⟩ (.int .i64 0)).setCell ⟨gO0, 4, none⟩ (.slice none 0 0) := ⟨_, rfl⟩
    first | rw [← hW7] | fail "w7"
    have o3 : Only [gO0] Y2 W7 := by rw [hW7]; exact ((Only.refl _ _).setCell (by simp) _).setCell (by simp) _
    have BO : Box W7 gO0 #[.int .i64 b.roots, .slice d1 b.nodes.length e1, .slice d2 b.sites.length e2, .int .i64 0, .slice none 0 0, .slice d4 b.inner.length e4] 34 := by rw [hW7]; exact (BO2.set 3 _).set 4 _
    have BW := BW2.keep (o3.block _ BW2.lt (fun h => hOW (List.mem_singleton.1 h).symm))
    have oo : Only [gO0, gW0] w6 W7 := ((o1.mono (by simp)).trans (o2.mono (by simp))).trans (o3.mono (by simp))
    have hlo : ∀ q ∈ [gO0, gW0], w2.heap.size ≤ q := fun q hq => by simp only [List.mem_cons, List.not_mem_nil, or_false] at hq; rcases hq with rfl | rfl <;> assumption
    have hb7 : Below w.heap.size w W7 := hb.trans (oo.below (B := w.heap.size) (fun q hq => by have := hlo q hq; omega) (by have := hb.size; omega))
    have hbl0 := hB.lt
    have hB7 := hB.keep (fun p hp => oo.block p (hbl0 p hp).2 (fun h => by have := hbO p hp; simp at h; omega))
    have hso7 := hso0.keep (fun p hp => oo.block p (hso0.lt p hp).2 (fun h => by have := hsO p hp; simp at h; omega))
    obtain ⟨bs', hB8, hN8, hq8⟩ := (hB7.edges (n := 0) (by unfold I64; omega)).outer hN (strs_none w2.heap.size W7) (by simp [blks])
    obtain ⟨n0, hn0, hn0'⟩ : ∃ n, n ≤ w2.heap.size ∧ w2.heap.size ≤ n := ⟨_, Nat.le_refl _, Nat.le_refl _⟩
    obtain ⟨n6, hn6, hn6'⟩ : ∃ n, n ≤ W7.heap.size ∧ W7.heap.size ≤ n := ⟨_, Nat.le_refl _, Nat.le_refl _⟩
    have hsz7 := oo.size
    have hbs : Hid (∀ p ∈ bs', n0 ≤ p ∧ p < n6 ∧ p ≠ gO0 ∧ p ≠ gW0 ∧ p ∉ blks (.slice ka b.outer.length kc)) := fun p hp => by
      have hm : p ∈ bs := by
        rcases hq8 p hp with h | h
        · exact h
        · simp [blks] at h
      have h1 := hbl0 p hm
      have h2 := hbO p hm
      exact ⟨by omega, by omega, h2.1, h2.2, fun h => (hsO p h).2.2 hm⟩
    have HVO : Hid (∀ p ∈ blks (.slice ka b.outer.length kc), p < n6 ∧ p ≠ gO0 ∧ p ≠ gW0) := fun p hp => ⟨by have := (hso0.lt p hp).2; omega, (hsO p hp).1, (hsO p hp).2.1⟩
    have hgO6 : w.heap.size + 3 ≤ gO0 ∧ gO0 < n6 := ⟨by omega, by have := BO.lt; omega⟩
    have hgW6 : w.heap.size + 3 ≤ gW0 ∧ gW0 < n6 := ⟨by omega, by have := BW.lt; omega⟩
    have hST : DSt w b n0 n6 gO0 gW0 #[.int .i64 b.roots, .slice a1 b.nodes.length c1, .slice a2 b.sites.length c2, .int .i64 b.edges, .slice a3 b.outer.length c3, .slice a4 b.inner.length c4] (.slice d1 b.nodes.length e1) (.slice d2 b.sites.length e2) (.slice d4 b.inner.length e4) (.slice ka b.outer.length kc) W7 (offN b.nodes 0) :=
      ⟨hb7, hn6, BA.keep (oo.block _ BA.lt (fun h => by have := hlo _ h; omega)), BR.keep (oo.block _ BR.lt (fun h => by have := hlo _ h; omega)), BS.keep (oo.block _ BS.lt (fun h => by have := hlo _ h; omega)), hso7.mono hn0, none, 0, none, 0, BO, BW, Acc.nil _ _ _ _, by show Acc _ _ _ _ _ (wdR (linksD b) 0); rw [wdR_zero]; exact Acc.nil _ _ _ _⟩
    have hB := hB8.mono hn0
    have hB : BigOwn n0 W7 (.agg #[.int .i64 b.roots, .slice d1 b.nodes.length e1, .slice d2 b.sites.length e2, .int .i64 0, .slice none 0 0, .slice d4 b.inner.length e4]) ⟨b.roots, progN (fD b) b.nodes 0 0, b.sites, 0, [], b.inner⟩ bs' := by rw [progN_zero]; exact hB
    have HOB := Lib.hid (fun k => offN_le HD.out.links k)
    have hw3 : w.heap.size + 3 ≤ n0 := by omega
    have hn06 : n0 ≤ n6 := by have := hb6.size; omega
    clear hY1 hY2 hW7 BW0 BW1 BW2 BO0 BO1 BO2 BO BW o1 o2 o3 oo hlo hb7 hbl0 hB7 hso7 hB8 hq8 hso0 hsO hbO hN hsz7 hs2 BA BR BS hb hb6 hOl hWl hn0 hn0'
    go_loopw [36, 11] (fun i _ W => ∃ k : Nat, k ≤ b.nodes.length ∧ i = .int .i64 k ∧ DSt w b n0 n6 gO0 gW0 #[.int .i64 b.roots, .slice a1 b.nodes.length c1, .slice a2 b.sites.length c2, .int .i64 b.edges, .slice a3 b.outer.length c3, .slice a4 b.inner.length c4] (.slice d1 b.nodes.length e1) (.slice d2 b.sites.length e2) (.slice d4 b.inner.length e4) (.slice ka b.outer.length kc) W (offN b.nodes k) ∧ BigOwn n0 W (.agg #[.int .i64 b.roots, .slice d1 b.nodes.length e1, .slice d2 b.sites.length e2, .int .i64 0, .slice none 0 0, .slice d4 b.inner.length e4]) ⟨b.roots, progN (fD b) b.nodes k 0, b.sites, 0, [], b.inner⟩ bs') (fun i _ _ => b.nodes.length - (intOf i).toNat)
    case atStart => exact ⟨0, Nat.zero_le _, rfl, hST, hB⟩
    case round =>
      clear hST hB
      obtain ⟨k, hk, rfl, hST, hB⟩ := hrel
      have hob := HOB.out k
      by_cases hkl : k < b.nodes.length
      · obtain ⟨x, hx⟩ := getElem?_of_lt hkl
        obtain ⟨g, vl, rfl, hgb, _, hx1, hx2, hvl, hc0, hc1, hc2⟩ := hB.nodeAt (progN_get0 (f := fD b) hx)
        obtain ⟨ya, yc, rfl, _, _, _⟩ := hvl.open
        have hxl := HD.out.links x (List.mem_of_getElem? hx)
        have HX := Lib.hid hx
        clear hx hvl
        go_wp2_with fail
        obtain ⟨wa, rfl⟩ : ∃ W, W = wr := ⟨_, rfl⟩
        obtain ⟨gx, hgx⟩ : ∃ g, g = wa.heap.size := ⟨_, rfl⟩
        obtain ⟨W8, hW8⟩ : ∃ W, W = wa.alloc (.cells #[.int .i64 x.ctl, .int .i64 x.par, .slice ya x.links.length yc] 100) := ⟨_, rfl⟩
        first | rw [← hW8] | fail "w8"
        have bx : Below wa.heap.size wa W8 := by rw [hW8]; exact balloc _ _
        have BX : Box W8 gx #[.int .i64 x.ctl, .int .i64 x.par, .slice ya x.links.length yc] 100 := by rw [hW8, hgx]; exact Box.new _ _ _
        have hlt := hB.lt
        have hB8 := hB.keep (keep_below bx (fun p hp => (hlt p hp).2))
        have hcl := (bx.cell (World.block_lt_of_cell? wa _ hc2)).trans hc2
        have hgx6 : n6 ≤ gx := by rw [hgx]; exact hST.hs
        have hS8 := hST.below bx
        rw [← hgx]
        clear hW8 hgx hB hST hc0 hc1 hc2 hlt bx
        go_loopw [43, 12, 13] (fun i _ _ W => ∃ j : Nat, j ≤ x.links.length ∧ i = .int .i64 j ∧ DSt w b n0 n6 gO0 gW0 #[.int .i64 b.roots, .slice a1 b.nodes.length c1, .slice a2 b.sites.length c2, .int .i64 b.edges, .slice a3 b.outer.length c3, .slice a4 b.inner.length c4] (.slice (some ⟨g, 0, none⟩) b.nodes.length e1) (.slice d2 b.sites.length e2) (.slice d4 b.inner.length e4) (.slice ka b.outer.length kc) W (offN b.nodes k + j) ∧ BigOwn n0 W (.agg #[.int .i64 b.roots, .slice (some ⟨g, 0, none⟩) b.nodes.length e1, .slice d2 b.sites.length e2, .int .i64 0, .slice none 0 0, .slice d4 b.inner.length e4]) ⟨b.roots, progN (fD b) b.nodes k j, b.sites, 0, [], b.inner⟩ bs' ∧ Box W gx #[.int .i64 x.ctl, .int .i64 x.par, .slice ya x.links.length yc] 100 ∧ Hid (W.cell? ⟨g, k * 3 + 2, none⟩ = some (.slice ya x.links.length yc))) (fun i _ _ _ => x.links.length - (intOf i).toNat)
        case atStart => exact ⟨0, Nat.zero_le _, rfl, hS8, hB8, BX, Lib.hid hcl⟩
        case round =>
          clear hS8 hB8 BX hcl
          obtain ⟨j, hj, rfl, hST, hB, BX, hcl'⟩ := hrel
          have hcl := hcl'.out
          clear hcl'
          by_cases hjl : j < x.links.length
          · obtain ⟨yl, hy⟩ := getElem?_of_lt hjl
            obtain ⟨g', vl, e', _, _, _, _, hvl, _, _, hc2'⟩ := hB.nodeAt (progN_get (f := fD b) HX.out)
            obtain rfl : g = g' := by simpa using e'
            have hc2' : wr.cell? ⟨g, k * 3 + 2, none⟩ = some vl := hc2'
            rw [hcl] at hc2'
            obtain rfl := Option.some.inj hc2'
            obtain ⟨_, _, ev, _, _, H6⟩ := hvl.open
            simp only [Value.slice.injEq] at ev
            obtain ⟨ev1, hle, ev2⟩ := ev
            subst ev1
            subst ev2
            clear hle
            obtain ⟨hyI, gl, ol, rfl, hcy0⟩ := H6 j yl (progI_get (f := fD b k) hy)
            obtain ⟨⟨rfl, hmm, hglb, hglg⟩, hcy, hfz, hzz⟩ := hB.lnk hN8 (progN_get (f := fD b) HX.out) hcl (progI_get (f := fD b k) hy)
            have HY := Lib.hid hy
            have HGL := Lib.hid (hbs.out gl hglb)
            have HGG : Hid (g ≠ gl) := fun e => hglg e.symm
            have hdr : Below wr.heap.size wr wr.drew := bdrew (Below.refl _ _)
            have HPT := Lib.hid (hST.point hdr (linksD_node HX.out hy) (by omega) hOW hgO6 hgW6 HVO.out)
            have HBL := Lib.hid hB.lt
            have hBd := hB.keep (w' := wr.drew) (fun _ _ => rfl)
            have BXd : Box wr.drew gx #[.int .i64 x.ctl, .int .i64 x.par, .slice (some ⟨gl, 0, none⟩) x.links.length yc] 100 := BX
            have hcld : wr.drew.cell? ⟨g, k * 3 + 2, none⟩ = some (.slice (some ⟨gl, 0, none⟩) x.links.length yc) := hcl
            have HBS := Lib.hid (hbs.out)
            clear hy H6 hzz hmm hcy0 e' hvl hc2' hyI hB hcl hfz hglg
            go_wp2_with fail
            have hj0 : (0 : Int) ≤ (j : Int) := by omega
            have hj1 : (j : Int) < (x.links.length : Int) := by omega
            have HBd := Lib.hid hBd
            have HCLd := Lib.hid hcld
            clear hBd hcld hc2' hdr
            go_region_held3 (fun w' => w'.cell? ⟨gx, 2, none⟩ = some (.slice (some ⟨gl, 0, none⟩) x.links.length yc)) (first | with_reducible exact ks | with_reducible exact kt _ | exact BXd.cell 2) (first | (go_at_call 101; (with_reducible refine HPT.out.mono ?_); rintro e w7 ⟨rfl, hS7, L, oL, hL⟩; have BX7 := BXd.keep (oL.block _ BXd.lt (gx_out BX hgx6 hgO6.2 hgW6.2 hL)); have hBk : ∀ p ∈ bs', w7.heap[p]? = wr.drew.heap[p]? := (fun p hp => oL.block p (HBL.out p hp).2 (bs_out (HBS.out p hp) hL)); have hB7 := HBd.out.keep hBk; have hcl7 := (cell_keep (j := k * 3 + 2) (hBk g hgb)).trans HCLd.out; obtain ⟨-, hcy7, hfz7, hst7⟩ := hB7.lnk hN8 (progN_get (f := fD b) HX.out) hcl7 (progI_get (f := fD b k) HY.out); have ks : w7.cell? ⟨gx, 2, none⟩ = some (.slice (some ⟨gl, 0, none⟩) x.links.length yc) := BX7.cell 2; have kt : ∀ u, (w7.setCell ⟨gl, j, none⟩ u).cell? ⟨gx, 2, none⟩ = some (.slice (some ⟨gl, 0, none⟩) x.links.length yc) := (fun u => (BX7.other u (gl_ne hgx6 HGL.out)).cell 2); have HST7 := Lib.hid (hst7 ((offN b.nodes k + j : Nat) : Int) (by unfold I64; omega)); have HBL7 := Lib.hid hB7.lt; clear hst7 hB7 hcy))
            go_wp2_with fail
            go_roundw
            case rel => exact ⟨j + 1, by omega, by go_num, hS7.set _ (by have := HGL.out.1; omega) HGL.out.2.1 HGL.out.2.2.1 HGL.out.2.2.2.1 HGL.out.2.2.2.2, by rw [progN_set HX.out HY.out]; exact HST7.out, BX7.other _ (gl_ne hgx6 HGL.out), Lib.hid ((cell_keep (heap_setCell_other _ _ _ _ HGG.out)).trans hcl7)⟩
            case measure => simp [intOf]; omega
          · have e : j = x.links.length := by omega
            subst e
            rw [progN_next HX.out] at hB
            have hS1 : DSt w b n0 n6 gO0 gW0 #[.int .i64 b.roots, .slice a1 b.nodes.length c1, .slice a2 b.sites.length c2, .int .i64 b.edges, .slice a3 b.outer.length c3, .slice a4 b.inner.length c4] (.slice (some ⟨g, 0, none⟩) b.nodes.length e1) (.slice d2 b.sites.length e2) (.slice d4 b.inner.length e4) (.slice ka b.outer.length kc) wr (offN b.nodes (k + 1)) := by rw [offN_succ HX.out]; exact hST
            go_wp2_with fail
            go_roundw
            case rel => exact ⟨k + 1, by omega, by go_num, hS1, hB⟩
            case measure => simp [intOf]; omega
      · have e : k = b.nodes.length := by omega
        subst e
        rw [progN_full] at hB
        obtain ⟨oa, oc, wa, wc, BO, BW, ao, aw⟩ := hST.ex
        have q := BO.cell
        clear BW ao aw
        go_wp2_with fail
        clear q BO
        obtain ⟨NS, hNS⟩ : ∃ l, l = allN (fD b) b.nodes := ⟨_, rfl⟩
        rw [← hNS] at hB
        have HNS := Lib.hid hNS
        obtain ⟨wa', rfl⟩ : ∃ W, W = wr := ⟨_, rfl⟩
        have hB0 : BigOwn n0 wa' (.agg #[.int .i64 b.roots, .slice d1 b.nodes.length e1, .slice d2 b.sites.length e2, .int .i64 0, .slice none 0 0, .slice d4 b.inner.length e4]) ⟨b.roots, NS, b.sites, 0, [], progW (gD b) b.inner 0⟩ bs' := by rw [progW_zero]; exact hB
        have hS0 : DSt w b n0 n6 gO0 gW0 #[.int .i64 b.roots, .slice a1 b.nodes.length c1, .slice a2 b.sites.length c2, .int .i64 b.edges, .slice a3 b.outer.length c3, .slice a4 b.inner.length c4] (.slice d1 b.nodes.length e1) (.slice d2 b.sites.length e2) (.slice d4 b.inner.length e4) (.slice ka b.outer.length kc) wa' (offN b.nodes b.nodes.length + 0) := hST
        clear hB hNS hST hob
        go_loopw [60, 14, 15] (fun i _ _ W => ∃ m : Nat, m ≤ b.inner.length ∧ i = .int .i64 m ∧ DSt w b n0 n6 gO0 gW0 #[.int .i64 b.roots, .slice a1 b.nodes.length c1, .slice a2 b.sites.length c2, .int .i64 b.edges, .slice a3 b.outer.length c3, .slice a4 b.inner.length c4] (.slice d1 b.nodes.length e1) (.slice d2 b.sites.length e2) (.slice d4 b.inner.length e4) (.slice ka b.outer.length kc) W (offN b.nodes b.nodes.length + m) ∧ BigOwn n0 W (.agg #[.int .i64 b.roots, .slice d1 b.nodes.length e1, .slice d2 b.sites.length e2, .int .i64 0, .slice none 0 0, .slice d4 b.inner.length e4]) ⟨b.roots, NS, b.sites, 0, [], progW (gD b) b.inner m⟩ bs') (fun i _ _ _ => b.inner.length - (intOf i).toNat)
        case atStart => exact ⟨0, Nat.zero_le _, rfl, hS0, hB0⟩
        case round =>
          clear hS0 hB0
          obtain ⟨m, hm, rfl, hST, hB⟩ := hrel
          have hob := HOB.out b.nodes.length
          by_cases hml : m < b.inner.length
          · obtain ⟨x, hx⟩ := getElem?_of_lt hml
            obtain ⟨g, rfl, hgb, hc0, hc1, hfz, hzz⟩ := hB.wire hN8 (progW_get (f := gD b) hx)
            have HX := Lib.hid hx
            have HGL := Lib.hid (hbs.out g hgb)
            have hhs := hST.hs
            have hl0 := linksD_wire hx
            clear hx hzz hfz
            go_wp2_with fail
            obtain ⟨wb, rfl⟩ : ∃ W, W = wr := ⟨_, rfl⟩
            obtain ⟨gx, hgx⟩ : ∃ g, g = wb.heap.size := ⟨_, rfl⟩
            obtain ⟨W8, hW8⟩ : ∃ W, W = wb.alloc (.cells #[.string x.name, .int .i64 x.link] 84) := ⟨_, rfl⟩
            first | rw [← hW8] | fail "w8b"
            have bx : Below wb.heap.size wb W8 := by rw [hW8]; exact balloc _ _
            have BX : Box W8 gx #[.string x.name, .int .i64 x.link] 84 := by rw [hW8, hgx]; exact Box.new _ _ _
            have hgx6 : n6 ≤ gx := by rw [hgx]; exact hhs
            have hdr : Below wb.heap.size wb W8.drew := bdrew bx
            have HPT := Lib.hid (hST.point hdr hl0 (by omega) hOW hgO6 hgW6 HVO.out)
            obtain ⟨oa, oc, wa, wc, BO, _⟩ := (hST.below hdr).ex
            have HBL := Lib.hid hB.lt
            have HBd := Lib.hid (hB.keep (keep_below hdr (fun p hp => (hB.lt p hp).2)))
            have HBS := Lib.hid hbs.out
            have hgw : Hid (wb.heap.size ≤ gx) := by show _ ≤ _; rw [hgx]; exact Nat.le_refl _
            have hbd := HBL.out
            have HBW : Hid (∀ p ∈ bs', p < W8.drew.heap.size) := fun p hp => Nat.lt_of_lt_of_le (HBL.out p hp).2 hdr.size
            have BXd : Box W8.drew gx #[.string x.name, .int .i64 x.link] 84 := BX
            rw [← hgx]
            have hj0 : (0 : Int) ≤ (m : Int) := by omega
            have hj1 : (m : Int) < (b.inner.length : Int) := by omega
            clear hW8 hgx bx hdr hB hST hc0 hc1 BX hl0 hbd hhs
            go_region_held3 (fun w' => w'.cell? ⟨gO0, 5, none⟩ = some (.slice (some ⟨g, 0, none⟩) b.inner.length e4) ∧ w'.cell? ⟨gx, 1, none⟩ = some (.int .i64 x.link)) (first | with_reducible exact ks | with_reducible exact kt _ | exact ⟨BO.cell 5, BXd.cell 1⟩) (first | (go_at_call 101; (with_reducible refine HPT.out.mono ?_); rintro e w7 ⟨rfl, hS7, L, oL, hL⟩; have BX7 := BXd.keep (oL.block _ BXd.lt (gx_new hgx6 hgO6.2 hgW6.2 hgw.out hL)); have hBk : ∀ p ∈ bs', w7.heap[p]? = W8.drew.heap[p]? := (fun p hp => oL.block p (HBW.out p hp) (bs_out (HBS.out p hp) hL)); have hB7 := HBd.out.keep hBk; obtain ⟨oa7, oc7, wa7, wc7, BO7, _⟩ := hS7.ex; obtain ⟨g7, eg7, -, hd0, hd1, hfz7, hst7⟩ := hB7.wire hN8 (progW_get (f := gD b) HX.out); obtain rfl : g = g7 := (by simpa using eg7); have ks : w7.cell? ⟨gO0, 5, none⟩ = some (.slice (some ⟨g, 0, none⟩) b.inner.length e4) ∧ w7.cell? ⟨gx, 1, none⟩ = some (.int .i64 x.link) := ⟨BO7.cell 5, BX7.cell 1⟩; have kt : ∀ u, (w7.setCell ⟨g, m * 2 + 1, none⟩ u).cell? ⟨gO0, 5, none⟩ = some (.slice (some ⟨g, 0, none⟩) b.inner.length e4) ∧ (w7.setCell ⟨g, m * 2 + 1, none⟩ u).cell? ⟨gx, 1, none⟩ = some (.int .i64 x.link) := (fun u => ⟨(BO7.other u (gO_ne HGL.out)).cell 5, (BX7.other u (gl_ne hgx6 HGL.out)).cell 1⟩); have HST7 := Lib.hid (hst7 ((offN b.nodes b.nodes.length + m : Nat) : Int) (by unfold I64; omega)); clear hst7 hB7 eg7 hd0))
            go_wp2_with fail
            go_roundw
            case rel => exact ⟨m + 1, by omega, by go_num, hS7.set _ (by have := HGL.out.1; omega) HGL.out.2.1 HGL.out.2.2.1 HGL.out.2.2.2.1 HGL.out.2.2.2.2, by rw [progW_set HX.out]; exact HST7.out⟩
            case measure => simp [intOf]; omega
          · have e : m = b.inner.length := by omega
            subst e
            rw [progW_full, HNS.out] at hB
            have hS : DSt w b n0 n6 gO0 gW0 #[.int .i64 b.roots, .slice a1 b.nodes.length c1, .slice a2 b.sites.length c2, .int .i64 b.edges, .slice a3 b.outer.length c3, .slice a4 b.inner.length c4] (.slice d1 b.nodes.length e1) (.slice d2 b.sites.length e2) (.slice d4 b.inner.length e4) (.slice ka b.outer.length kc) wr (linksD b).length := by rw [linksD_len]; exact hST
            obtain ⟨oa, oc, wa, wc, BO, BW, ao, aw⟩ := hS.ex
            have hdl := linksD_bd HD.out
            have BA := hS.BA
            have BR := hS.BR
            have BS := hS.BS
            have hb := hS.hb
            have hhs := hS.hs
            have HSO : Hid (StrsOwn n0 wr (.slice ka b.outer.length kc) b.outer) := ⟨hS.hso, by omega, H3.out.2⟩
            clear hST hS
            by_cases hlt : (linksD b).length ≤ 16
            · have HC : Hid (dscC sig b = true) := by show _ = _; unfold dscC; rw [HGD.out, decide_eq_true hlt]; rfl
              have hlg : ¬ (16 : Int) < ((linksD b).length : Int) := by omega
              have HBD := Lib.hid (wirD_ok HD.out (Nat.le_refl (linksD b).length))
              have hpo : StrsOwn n0 wr (.slice oa (linksD b).length oc) (pts (linksD b).length) := ⟨ao.own.mono (by omega), by rw [pts_len]; omega, pts_size (by omega)⟩
              obtain ⟨bs2, hB2, hN2, hq2⟩ := hB.outer hN8 hpo (fun q hq h => by have := (ao.own.lt q hq).1; have := (hbs.out q h).2.1; omega)
              have hbq : Hid (∀ p ∈ bs2, n0 ≤ p ∧ p < wr.heap.size ∧ p ∉ blks (.slice ka b.outer.length kc) ∧ p ∉ blks (.slice wa (linksD b).length wc)) := fun p hp => by
                rcases hq2 p hp with h | h
                · have h1 := hbs.out p h
                  exact ⟨h1.1, by omega, h1.2.2.2.2, fun h2 => by have := (aw.own.lt p h2).1; omega⟩
                · have h1 := ao.own.lt p h
                  exact ⟨by omega, h1.2, fun h2 => by have := (HVO.out p h2).1; omega, fun h2 => ao.disj aw (by decide) p h h2⟩
              have hbw : Hid (∀ p ∈ blks (.slice wa (linksD b).length wc), n6 ≤ p ∧ p < wr.heap.size) := fun p hp => aw.own.lt p hp
              have HAW := Lib.hid aw.own
              have HB2 := Lib.hid hB2
              have q := BO.cell
              clear hlt hB hB2 hpo hq2 ao aw
              go_wp2_with fail
              clear q
              have kt1 : ∀ u0 u1 u2 u3 u4 u5, (((((((wr.setCell ⟨w.heap.size + 1, 0, none⟩ u0).setCell ⟨w.heap.size + 1, 1, none⟩ u1).setCell ⟨w.heap.size + 1, 2, none⟩ u2).setCell ⟨w.heap.size + 1, 3, none⟩ u3).setCell ⟨w.heap.size + 1, 4, none⟩ u4).setCell ⟨w.heap.size + 1, 5, none⟩ u5).drew.cell? ⟨gW0, 0, none⟩ = some (.int .i64 0) ∧ ((((((wr.setCell ⟨w.heap.size + 1, 0, none⟩ u0).setCell ⟨w.heap.size + 1, 1, none⟩ u1).setCell ⟨w.heap.size + 1, 2, none⟩ u2).setCell ⟨w.heap.size + 1, 3, none⟩ u3).setCell ⟨w.heap.size + 1, 4, none⟩ u4).setCell ⟨w.heap.size + 1, 5, none⟩ u5).drew.cell? ⟨gW0, 1, none⟩ = some (.slice none 0 0) ∧ ((((((wr.setCell ⟨w.heap.size + 1, 0, none⟩ u0).setCell ⟨w.heap.size + 1, 1, none⟩ u1).setCell ⟨w.heap.size + 1, 2, none⟩ u2).setCell ⟨w.heap.size + 1, 3, none⟩ u3).setCell ⟨w.heap.size + 1, 4, none⟩ u4).setCell ⟨w.heap.size + 1, 5, none⟩ u5).drew.cell? ⟨gW0, 2, none⟩ = some (.slice none 0 0) ∧ ((((((wr.setCell ⟨w.heap.size + 1, 0, none⟩ u0).setCell ⟨w.heap.size + 1, 1, none⟩ u1).setCell ⟨w.heap.size + 1, 2, none⟩ u2).setCell ⟨w.heap.size + 1, 3, none⟩ u3).setCell ⟨w.heap.size + 1, 4, none⟩ u4).setCell ⟨w.heap.size + 1, 5, none⟩ u5).drew.cell? ⟨gW0, 3, none⟩ = some (.int .i64 b.edges) ∧ ((((((wr.setCell ⟨w.heap.size + 1, 0, none⟩ u0).setCell ⟨w.heap.size + 1, 1, none⟩ u1).setCell ⟨w.heap.size + 1, 2, none⟩ u2).setCell ⟨w.heap.size + 1, 3, none⟩ u3).setCell ⟨w.heap.size + 1, 4, none⟩ u4).setCell ⟨w.heap.size + 1, 5, none⟩ u5).drew.cell? ⟨gW0, 4, none⟩ = some (.slice ka b.outer.length kc) ∧ ((((((wr.setCell ⟨w.heap.size + 1, 0, none⟩ u0).setCell ⟨w.heap.size + 1, 1, none⟩ u1).setCell ⟨w.heap.size + 1, 2, none⟩ u2).setCell ⟨w.heap.size + 1, 3, none⟩ u3).setCell ⟨w.heap.size + 1, 4, none⟩ u4).setCell ⟨w.heap.size + 1, 5, none⟩ u5).drew.cell? ⟨gW0, 5, none⟩ = some (.slice wa (linksD b).length wc) ∧ ((((((wr.setCell ⟨w.heap.size + 1, 0, none⟩ u0).setCell ⟨w.heap.size + 1, 1, none⟩ u1).setCell ⟨w.heap.size + 1, 2, none⟩ u2).setCell ⟨w.heap.size + 1, 3, none⟩ u3).setCell ⟨w.heap.size + 1, 4, none⟩ u4).setCell ⟨w.heap.size + 1, 5, none⟩ u5).drew.cell? ⟨gO0, 0, none⟩ = some (.int .i64 b.roots) ∧ ((((((wr.setCell ⟨w.heap.size + 1, 0, none⟩ u0).setCell ⟨w.heap.size + 1, 1, none⟩ u1).setCell ⟨w.heap.size + 1, 2, none⟩ u2).setCell ⟨w.heap.size + 1, 3, none⟩ u3).setCell ⟨w.heap.size + 1, 4, none⟩ u4).setCell ⟨w.heap.size + 1, 5, none⟩ u5).drew.cell? ⟨gO0, 1, none⟩ = some (.slice d1 b.nodes.length e1) ∧ ((((((wr.setCell ⟨w.heap.size + 1, 0, none⟩ u0).setCell ⟨w.heap.size + 1, 1, none⟩ u1).setCell ⟨w.heap.size + 1, 2, none⟩ u2).setCell ⟨w.heap.size + 1, 3, none⟩ u3).setCell ⟨w.heap.size + 1, 4, none⟩ u4).setCell ⟨w.heap.size + 1, 5, none⟩ u5).drew.cell? ⟨gO0, 2, none⟩ = some (.slice d2 b.sites.length e2) ∧ ((((((wr.setCell ⟨w.heap.size + 1, 0, none⟩ u0).setCell ⟨w.heap.size + 1, 1, none⟩ u1).setCell ⟨w.heap.size + 1, 2, none⟩ u2).setCell ⟨w.heap.size + 1, 3, none⟩ u3).setCell ⟨w.heap.size + 1, 4, none⟩ u4).setCell ⟨w.heap.size + 1, 5, none⟩ u5).drew.cell? ⟨gO0, 3, none⟩ = some (.int .i64 0) ∧ ((((((wr.setCell ⟨w.heap.size + 1, 0, none⟩ u0).setCell ⟨w.heap.size + 1, 1, none⟩ u1).setCell ⟨w.heap.size + 1, 2, none⟩ u2).setCell ⟨w.heap.size + 1, 3, none⟩ u3).setCell ⟨w.heap.size + 1, 4, none⟩ u4).setCell ⟨w.heap.size + 1, 5, none⟩ u5).drew.cell? ⟨gO0, 4, none⟩ = some (.slice oa (linksD b).length oc) ∧ ((((((wr.setCell ⟨w.heap.size + 1, 0, none⟩ u0).setCell ⟨w.heap.size + 1, 1, none⟩ u1).setCell ⟨w.heap.size + 1, 2, none⟩ u2).setCell ⟨w.heap.size + 1, 3, none⟩ u3).setCell ⟨w.heap.size + 1, 4, none⟩ u4).setCell ⟨w.heap.size + 1, 5, none⟩ u5).drew.cell? ⟨gO0, 5, none⟩ = some (.slice d4 b.inner.length e4)) := fun u0 u1 u2 u3 u4 u5 => six2d (BW.other6 (by omega) u0 u1 u2 u3 u4 u5) (BO.other6 (by omega) u0 u1 u2 u3 u4 u5)
              have kt2 : ∀ u0 u1 u2 u3 u4 u5 u6 u7 u8 u9 u10 u11, (((((((((((((wr.setCell ⟨w.heap.size + 1, 0, none⟩ u0).setCell ⟨w.heap.size + 1, 1, none⟩ u1).setCell ⟨w.heap.size + 1, 2, none⟩ u2).setCell ⟨w.heap.size + 1, 3, none⟩ u3).setCell ⟨w.heap.size + 1, 4, none⟩ u4).setCell ⟨w.heap.size + 1, 5, none⟩ u5).setCell ⟨w.heap.size + 1 + 1, 0, none⟩ u6).setCell ⟨w.heap.size + 1 + 1, 1, none⟩ u7).setCell ⟨w.heap.size + 1 + 1, 2, none⟩ u8).setCell ⟨w.heap.size + 1 + 1, 3, none⟩ u9).setCell ⟨w.heap.size + 1 + 1, 4, none⟩ u10).setCell ⟨w.heap.size + 1 + 1, 5, none⟩ u11).drew.cell? ⟨gW0, 0, none⟩ = some (.int .i64 0) ∧ ((((((((((((wr.setCell ⟨w.heap.size + 1, 0, none⟩ u0).setCell ⟨w.heap.size + 1, 1, none⟩ u1).setCell ⟨w.heap.size + 1, 2, none⟩ u2).setCell ⟨w.heap.size + 1, 3, none⟩ u3).setCell ⟨w.heap.size + 1, 4, none⟩ u4).setCell ⟨w.heap.size + 1, 5, none⟩ u5).setCell ⟨w.heap.size + 1 + 1, 0, none⟩ u6).setCell ⟨w.heap.size + 1 + 1, 1, none⟩ u7).setCell ⟨w.heap.size + 1 + 1, 2, none⟩ u8).setCell ⟨w.heap.size + 1 + 1, 3, none⟩ u9).setCell ⟨w.heap.size + 1 + 1, 4, none⟩ u10).setCell ⟨w.heap.size + 1 + 1, 5, none⟩ u11).drew.cell? ⟨gW0, 1, none⟩ = some (.slice none 0 0) ∧ ((((((((((((wr.setCell ⟨w.heap.size + 1, 0, none⟩ u0).setCell ⟨w.heap.size + 1, 1, none⟩ u1).setCell ⟨w.heap.size + 1, 2, none⟩ u2).setCell ⟨w.heap.size + 1, 3, none⟩ u3).setCell ⟨w.heap.size + 1, 4, none⟩ u4).setCell ⟨w.heap.size + 1, 5, none⟩ u5).setCell ⟨w.heap.size + 1 + 1, 0, none⟩ u6).setCell ⟨w.heap.size + 1 + 1, 1, none⟩ u7).setCell ⟨w.heap.size + 1 + 1, 2, none⟩ u8).setCell ⟨w.heap.size + 1 + 1, 3, none⟩ u9).setCell ⟨w.heap.size + 1 + 1, 4, none⟩ u10).setCell ⟨w.heap.size + 1 + 1, 5, none⟩ u11).drew.cell? ⟨gW0, 2, none⟩ = some (.slice none 0 0) ∧ ((((((((((((wr.setCell ⟨w.heap.size + 1, 0, none⟩ u0).setCell ⟨w.heap.size + 1, 1, none⟩ u1).setCell ⟨w.heap.size + 1, 2, none⟩ u2).setCell ⟨w.heap.size + 1, 3, none⟩ u3).setCell ⟨w.heap.size + 1, 4, none⟩ u4).setCell ⟨w.heap.size + 1, 5, none⟩ u5).setCell ⟨w.heap.size + 1 + 1, 0, none⟩ u6).setCell ⟨w.heap.size + 1 + 1, 1, none⟩ u7).setCell ⟨w.heap.size + 1 + 1, 2, none⟩ u8).setCell ⟨w.heap.size + 1 + 1, 3, none⟩ u9).setCell ⟨w.heap.size + 1 + 1, 4, none⟩ u10).setCell ⟨w.heap.size + 1 + 1, 5, none⟩ u11).drew.cell? ⟨gW0, 3, none⟩ = some (.int .i64 b.edges) ∧ ((((((((((((wr.setCell ⟨w.heap.size + 1, 0, none⟩ u0).setCell ⟨w.heap.size + 1, 1, none⟩ u1).setCell ⟨w.heap.size + 1, 2, none⟩ u2).setCell ⟨w.heap.size + 1, 3, none⟩ u3).setCell ⟨w.heap.size + 1, 4, none⟩ u4).setCell ⟨w.heap.size + 1, 5, none⟩ u5).setCell ⟨w.heap.size + 1 + 1, 0, none⟩ u6).setCell ⟨w.heap.size + 1 + 1, 1, none⟩ u7).setCell ⟨w.heap.size + 1 + 1, 2, none⟩ u8).setCell ⟨w.heap.size + 1 + 1, 3, none⟩ u9).setCell ⟨w.heap.size + 1 + 1, 4, none⟩ u10).setCell ⟨w.heap.size + 1 + 1, 5, none⟩ u11).drew.cell? ⟨gW0, 4, none⟩ = some (.slice ka b.outer.length kc) ∧ ((((((((((((wr.setCell ⟨w.heap.size + 1, 0, none⟩ u0).setCell ⟨w.heap.size + 1, 1, none⟩ u1).setCell ⟨w.heap.size + 1, 2, none⟩ u2).setCell ⟨w.heap.size + 1, 3, none⟩ u3).setCell ⟨w.heap.size + 1, 4, none⟩ u4).setCell ⟨w.heap.size + 1, 5, none⟩ u5).setCell ⟨w.heap.size + 1 + 1, 0, none⟩ u6).setCell ⟨w.heap.size + 1 + 1, 1, none⟩ u7).setCell ⟨w.heap.size + 1 + 1, 2, none⟩ u8).setCell ⟨w.heap.size + 1 + 1, 3, none⟩ u9).setCell ⟨w.heap.size + 1 + 1, 4, none⟩ u10).setCell ⟨w.heap.size + 1 + 1, 5, none⟩ u11).drew.cell? ⟨gW0, 5, none⟩ = some (.slice wa (linksD b).length wc) ∧ ((((((((((((wr.setCell ⟨w.heap.size + 1, 0, none⟩ u0).setCell ⟨w.heap.size + 1, 1, none⟩ u1).setCell ⟨w.heap.size + 1, 2, none⟩ u2).setCell ⟨w.heap.size + 1, 3, none⟩ u3).setCell ⟨w.heap.size + 1, 4, none⟩ u4).setCell ⟨w.heap.size + 1, 5, none⟩ u5).setCell ⟨w.heap.size + 1 + 1, 0, none⟩ u6).setCell ⟨w.heap.size + 1 + 1, 1, none⟩ u7).setCell ⟨w.heap.size + 1 + 1, 2, none⟩ u8).setCell ⟨w.heap.size + 1 + 1, 3, none⟩ u9).setCell ⟨w.heap.size + 1 + 1, 4, none⟩ u10).setCell ⟨w.heap.size + 1 + 1, 5, none⟩ u11).drew.cell? ⟨gO0, 0, none⟩ = some (.int .i64 b.roots) ∧ ((((((((((((wr.setCell ⟨w.heap.size + 1, 0, none⟩ u0).setCell ⟨w.heap.size + 1, 1, none⟩ u1).setCell ⟨w.heap.size + 1, 2, none⟩ u2).setCell ⟨w.heap.size + 1, 3, none⟩ u3).setCell ⟨w.heap.size + 1, 4, none⟩ u4).setCell ⟨w.heap.size + 1, 5, none⟩ u5).setCell ⟨w.heap.size + 1 + 1, 0, none⟩ u6).setCell ⟨w.heap.size + 1 + 1, 1, none⟩ u7).setCell ⟨w.heap.size + 1 + 1, 2, none⟩ u8).setCell ⟨w.heap.size + 1 + 1, 3, none⟩ u9).setCell ⟨w.heap.size + 1 + 1, 4, none⟩ u10).setCell ⟨w.heap.size + 1 + 1, 5, none⟩ u11).drew.cell? ⟨gO0, 1, none⟩ = some (.slice d1 b.nodes.length e1) ∧ ((((((((((((wr.setCell ⟨w.heap.size + 1, 0, none⟩ u0).setCell ⟨w.heap.size + 1, 1, none⟩ u1).setCell ⟨w.heap.size + 1, 2, none⟩ u2).setCell ⟨w.heap.size + 1, 3, none⟩ u3).setCell ⟨w.heap.size + 1, 4, none⟩ u4).setCell ⟨w.heap.size + 1, 5, none⟩ u5).setCell ⟨w.heap.size + 1 + 1, 0, none⟩ u6).setCell ⟨w.heap.size + 1 + 1, 1, none⟩ u7).setCell ⟨w.heap.size + 1 + 1, 2, none⟩ u8).setCell ⟨w.heap.size + 1 + 1, 3, none⟩ u9).setCell ⟨w.heap.size + 1 + 1, 4, none⟩ u10).setCell ⟨w.heap.size + 1 + 1, 5, none⟩ u11).drew.cell? ⟨gO0, 2, none⟩ = some (.slice d2 b.sites.length e2) ∧ ((((((((((((wr.setCell ⟨w.heap.size + 1, 0, none⟩ u0).setCell ⟨w.heap.size + 1, 1, none⟩ u1).setCell ⟨w.heap.size + 1, 2, none⟩ u2).setCell ⟨w.heap.size + 1, 3, none⟩ u3).setCell ⟨w.heap.size + 1, 4, none⟩ u4).setCell ⟨w.heap.size + 1, 5, none⟩ u5).setCell ⟨w.heap.size + 1 + 1, 0, none⟩ u6).setCell ⟨w.heap.size + 1 + 1, 1, none⟩ u7).setCell ⟨w.heap.size + 1 + 1, 2, none⟩ u8).setCell ⟨w.heap.size + 1 + 1, 3, none⟩ u9).setCell ⟨w.heap.size + 1 + 1, 4, none⟩ u10).setCell ⟨w.heap.size + 1 + 1, 5, none⟩ u11).drew.cell? ⟨gO0, 3, none⟩ = some (.int .i64 0) ∧ ((((((((((((wr.setCell ⟨w.heap.size + 1, 0, none⟩ u0).setCell ⟨w.heap.size + 1, 1, none⟩ u1).setCell ⟨w.heap.size + 1, 2, none⟩ u2).setCell ⟨w.heap.size + 1, 3, none⟩ u3).setCell ⟨w.heap.size + 1, 4, none⟩ u4).setCell ⟨w.heap.size + 1, 5, none⟩ u5).setCell ⟨w.heap.size + 1 + 1, 0, none⟩ u6).setCell ⟨w.heap.size + 1 + 1, 1, none⟩ u7).setCell ⟨w.heap.size + 1 + 1, 2, none⟩ u8).setCell ⟨w.heap.size + 1 + 1, 3, none⟩ u9).setCell ⟨w.heap.size + 1 + 1, 4, none⟩ u10).setCell ⟨w.heap.size + 1 + 1, 5, none⟩ u11).drew.cell? ⟨gO0, 4, none⟩ = some (.slice oa (linksD b).length oc) ∧ ((((((((((((wr.setCell ⟨w.heap.size + 1, 0, none⟩ u0).setCell ⟨w.heap.size + 1, 1, none⟩ u1).setCell ⟨w.heap.size + 1, 2, none⟩ u2).setCell ⟨w.heap.size + 1, 3, none⟩ u3).setCell ⟨w.heap.size + 1, 4, none⟩ u4).setCell ⟨w.heap.size + 1, 5, none⟩ u5).setCell ⟨w.heap.size + 1 + 1, 0, none⟩ u6).setCell ⟨w.heap.size + 1 + 1, 1, none⟩ u7).setCell ⟨w.heap.size + 1 + 1, 2, none⟩ u8).setCell ⟨w.heap.size + 1 + 1, 3, none⟩ u9).setCell ⟨w.heap.size + 1 + 1, 4, none⟩ u10).setCell ⟨w.heap.size + 1 + 1, 5, none⟩ u11).drew.cell? ⟨gO0, 5, none⟩ = some (.slice d4 b.inner.length e4)) := fun u0 u1 u2 u3 u4 u5 u6 u7 u8 u9 u10 u11 => six2d ((BW.other6 (by omega) u0 u1 u2 u3 u4 u5).other6 (by omega) u6 u7 u8 u9 u10 u11) ((BO.other6 (by omega) u0 u1 u2 u3 u4 u5).other6 (by omega) u6 u7 u8 u9 u10 u11)
              have kt0 : wr.drew.cell? ⟨gW0, 0, none⟩ = some (.int .i64 0) ∧ wr.drew.cell? ⟨gW0, 1, none⟩ = some (.slice none 0 0) ∧ wr.drew.cell? ⟨gW0, 2, none⟩ = some (.slice none 0 0) ∧ wr.drew.cell? ⟨gW0, 3, none⟩ = some (.int .i64 b.edges) ∧ wr.drew.cell? ⟨gW0, 4, none⟩ = some (.slice ka b.outer.length kc) ∧ wr.drew.cell? ⟨gW0, 5, none⟩ = some (.slice wa (linksD b).length wc) ∧ wr.drew.cell? ⟨gO0, 0, none⟩ = some (.int .i64 b.roots) ∧ wr.drew.cell? ⟨gO0, 1, none⟩ = some (.slice d1 b.nodes.length e1) ∧ wr.drew.cell? ⟨gO0, 2, none⟩ = some (.slice d2 b.sites.length e2) ∧ wr.drew.cell? ⟨gO0, 3, none⟩ = some (.int .i64 0) ∧ wr.drew.cell? ⟨gO0, 4, none⟩ = some (.slice oa (linksD b).length oc) ∧ wr.drew.cell? ⟨gO0, 5, none⟩ = some (.slice d4 b.inner.length e4) := six2d BW BO
              have q := BR.cell
              have f := BR.free
              have q2 := BS.cell
              have f2 := BS.free
              go_region_held3 (fun w' => w'.cell? ⟨gW0, 0, none⟩ = some (.int .i64 0) ∧ w'.cell? ⟨gW0, 1, none⟩ = some (.slice none 0 0) ∧ w'.cell? ⟨gW0, 2, none⟩ = some (.slice none 0 0) ∧ w'.cell? ⟨gW0, 3, none⟩ = some (.int .i64 b.edges) ∧ w'.cell? ⟨gW0, 4, none⟩ = some (.slice ka b.outer.length kc) ∧ w'.cell? ⟨gW0, 5, none⟩ = some (.slice wa (linksD b).length wc) ∧ w'.cell? ⟨gO0, 0, none⟩ = some (.int .i64 b.roots) ∧ w'.cell? ⟨gO0, 1, none⟩ = some (.slice d1 b.nodes.length e1) ∧ w'.cell? ⟨gO0, 2, none⟩ = some (.slice d2 b.sites.length e2) ∧ w'.cell? ⟨gO0, 3, none⟩ = some (.int .i64 0) ∧ w'.cell? ⟨gO0, 4, none⟩ = some (.slice oa (linksD b).length oc) ∧ w'.cell? ⟨gO0, 5, none⟩ = some (.slice d4 b.inner.length e4)) (first | with_reducible exact kt0 | with_reducible exact kt1 _ _ _ _ _ _ | with_reducible exact kt2 _ _ _ _ _ _ _ _ _ _ _ _) (fail)
              clear kt0 kt1 kt2
              go_wp2_with fail
              clear q f q2 f2
              obtain ⟨Y1, hY1, BR9, o1⟩ := box_fill BR (.int .i64 0) (.slice none 0 0) (.slice none 0 0) (.int .i64 b.edges) (.slice ka b.outer.length kc) (.slice wa (linksD b).length wc)
              first | rw [← hY1] | fail "y1"
              have BS9 := BS.keep (o1.block _ BS.lt (fun h => by have := List.mem_singleton.1 h; omega))
              obtain ⟨Y2, hY2, BSa, o2⟩ := box_fill BS9 (.int .i64 b.roots) (.slice d1 b.nodes.length e1) (.slice d2 b.sites.length e2) (.int .i64 0) (.slice oa (linksD b).length oc) (.slice d4 b.inner.length e4)
              first | rw [← hY2] | fail "y2"
              have BRa := BR9.keep (o2.block _ BR9.lt (fun h => by have := List.mem_singleton.1 h; omega))
              have hk : ∀ p, w.heap.size + 3 ≤ p → p < wr.heap.size → Y2.drew.heap[p]? = wr.heap[p]? := fun p hp hl => (o2.block p (Nat.lt_of_lt_of_le hl o1.size) (fun h => by have := List.mem_singleton.1 h; omega)).trans (o1.block p hl (fun h => by have := List.mem_singleton.1 h; omega))
              have hbY : Below w.heap.size w Y2.drew := bdrew ((hb.trans (o1.below (B := w.heap.size) (fun p hp => by have := List.mem_singleton.1 hp; omega) (by have := hb.size; omega))).trans (o2.below (B := w.heap.size) (fun p hp => by have := List.mem_singleton.1 hp; omega) (by have := o1.size; have := hb.size; omega)))
              have q := BRa.cell
              have q2 := BSa.cell
              have hsl := HSO.out.lt
              have hsoY := HSO.out.keep (fun p hp => hk p (by have := (hsl p hp).1; omega) (hsl p hp).2)
              have haY := HAW.out.keep (fun p hp => hk p (by have := (hbw.out p hp).1; omega) (hbw.out p hp).2)
              have hBY := HB2.out.keep (fun p hp => hk p (by have := (hbq.out p hp).1; omega) (hbq.out p hp).2.1)
              refine bodyPost_ret (v := .tuple #[.agg #[.int .i64 0, .slice none 0 0, .slice none 0 0, .int .i64 b.edges, .slice ka b.outer.length kc, .slice wa (linksD b).length wc], .agg #[.int .i64 b.roots, .slice d1 b.nodes.length e1, .slice d2 b.sites.length e2, .int .i64 0, .slice oa (linksD b).length oc, .slice d4 b.inner.length e4], .bool true]) (by simp [results, Tryz.results31, go_sem, q, q2]) rfl ?_
              rw [dscW_yes HC.out, dscO_yes HC.out, HC.out]
              refine ⟨_, blks (.slice ka b.outer.length kc) ++ blks (.slice wa (linksD b).length wc), _, bs2, rfl, ⟨_, _, _, _, [], rfl, nds_none _ _, ints_none _ _, ⟨hsoY.1.mono (by omega), hsoY.2⟩, ⟨haY.mono (by omega), by show (wirD _ _).length ≤ _; rw [wirD_len (Nat.le_refl _)]; omega, HBD.out⟩, ?_, ?_, rfl⟩, ?_, hBY.mono (by omega), hN2, ?_, hbY⟩
              · unfold I64 wireB; dsimp only; omega
              · have := HD.out.edges; unfold I64 wireB; dsimp only; omega
              · rw [List.nodup_append]
                exact ⟨blks_nodup _ _ _, blks_nodup _ _ _, fun p hp q hq => by have := HVO.out p hp; have := hbw.out q hq; omega⟩
              · intro p hp hq
                rcases List.mem_append.1 hp with h | h
                · exact (hbq.out p hq).2.2.1 h
                · exact (hbq.out p hq).2.2.2 h
            · have HC : Hid (dscC sig b = false) := by show _ = _; unfold dscC; rw [HGD.out, decide_eq_false hlt]; rfl
              have hlg : (16 : Int) < ((linksD b).length : Int) := by omega
              have q0 := BO.cell
              have q := BR.cell
              have f := BR.free
              have q2 := BS.cell
              have f2 := BS.free
              clear hlt hB ao aw
              go_wp2_with fail
              refine bodyPost_ret (v := .tuple #[.agg #[.int .i64 0, .slice none 0 0, .slice none 0 0, .int .i64 0, .slice none 0 0, .slice none 0 0], .agg #[.int .i64 0, .slice none 0 0, .slice none 0 0, .int .i64 0, .slice none 0 0, .slice none 0 0], .bool false]) (by simp [results, Tryz.results31, go_sem, q, q2]) rfl ?_
              rw [dscW_no HC.out, dscO_no HC.out, HC.out]
              refine noBig2 ?_
              iterate 12 refine Below.setCell ?_ (by dsimp only; omega) _
              exact hb
end Go.Proofs.YthbdmcobpcoajaaGreatDoor
