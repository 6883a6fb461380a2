/- Links turned: the program's. -/
import Derived.Test.YthgelhglfbgagaaGreatDoorG2
import Derived.Test.YthgelhglfbgagaaGreatDoorOwnB
import Derived.Test.YthgelhglfbgagaaGreatDoorRenB
import Derived.Test.YthgelhglfbgagaaGreatDoorSortB
namespace Go.Proofs.YthgelhglfbgagaaGreatDoor
open Go Go.RowKit Go.BigFrame

theorem cell_keep {w w' : World} {g j : Nat} (h : w'.heap[g]? = w.heap[g]?) : w'.cell? ⟨g, j, none⟩ = w.cell? ⟨g, j, none⟩ := by
  unfold World.cell?; simp only [h]
set_option maxRecDepth 100000 in
set_option maxHeartbeats 2000000 in
theorem endOf_ct (v : Value) (b : Big) (l p : Int) (s : ByteArray) (w : World) (h : BigAt w v b) (hl : 0 ≤ l ∧ l < b.edges + b.outer.length) (he : 0 ≤ b.edges ∧ b.edges ≤ 1000) (ho : b.outer.length ≤ 1000) (hr : endB b l = (p, s)) :
    Calls Tryz.prog 112 #[v, .int .i64 l] w fun e w' => e = .returned (.agg #[.int .i64 p, .string s]) ∧ Below w.heap.size w w' := by
  obtain ⟨a1, c1, a2, c2, a3, c3, a4, c4, rfl, _, _, h3, _, _, _⟩ := h.parts
  obtain ⟨_, _, e3, _, _, H3⟩ := h3.open
  obtain ⟨rfl, rfl⟩ := (by simpa using e3 : a3 = _ ∧ c3 = _)
  clear e3 h h3
  by_cases hlt : l < b.edges
  · have HN : Hid (l = p ∧ (⟨#[]⟩ : ByteArray) = s) := by
      unfold endB at hr; rw [if_pos hlt] at hr
      exact ⟨congrArg Prod.fst hr, congrArg Prod.snd hr⟩
    clear H3 hr
    go_enter Tryz.func112, Tryz.ntmps112
    go_wp2_with fail
    refine bodyPost_ret (v := .agg #[.int .i64 l, .string ⟨#[]⟩]) (by simp [results, Tryz.results112, go_sem]) rfl ⟨by rw [← HN.out.1, ← HN.out.2], ?_⟩
    repeat (first | exact Below.refl _ _ | refine Below.alloc ?_ (by simp <;> omega) _ | refine Below.setCell ?_ (by simp <;> omega) _)
  · obtain ⟨k, hk⟩ : ∃ k : Nat, l - b.edges = k := ⟨(l - b.edges).toNat, by omega⟩
    obtain rfl : l = b.edges + (k : Int) := by omega
    have hkl : k < b.outer.length := by omega
    obtain ⟨x, hx⟩ := getElem?_of_lt hkl
    obtain ⟨_, ob, oo, rfl, hc⟩ := H3 k x hx
    have HN : Hid ((0 : Int) = p ∧ x = s) := by
      unfold endB at hr; rw [if_neg hlt] at hr
      rw [hk, Int.toNat_natCast, List.getD_eq_getElem?_getD, hx] at hr
      exact ⟨congrArg Prod.fst hr, congrArg Prod.snd hr⟩
    have e1 : IntKind.i64.wrap (b.edges + (k : Int) - b.edges) = (k : Int) := by rw [Go.IntWalk.i64_in _ (by omega)]; omega
    have e2 : b.edges + (k : Int) - b.edges = (k : Int) := by omega
    have hbl := World.block_lt_of_cell? w _ hc
    clear H3 hr hx hk
    go_enter Tryz.func112, Tryz.ntmps112
    go_wp2_with fail
    refine bodyPost_ret (v := .agg #[.int .i64 0, .string x]) (by simp [results, Tryz.results112, go_sem]) rfl ⟨by rw [← HN.out.1, ← HN.out.2], ?_⟩
    repeat (first | exact Below.refl _ _ | refine Below.alloc ?_ (by simp <;> omega) _ | refine Below.setCell ?_ (by simp <;> omega) _)
set_option maxRecDepth 100000 in
set_option maxHeartbeats 4000000 in
theorem link_ct (gt : Nat) (lt : Array Value) (eg : ∀ args w, (callFunc gt args).run Tryz.prog w = .ok (.enter gt args) w) (Tn : Int × ByteArray → Int × ByteArray) {a1 a2 a3 a4 ua : Option Addr} {c1 c2 c3 c4 uc : Nat} {t4 t5 t7 : TypeId} (g7 g4 g5 g9 : Nat) (b : Big) (E : Int) (outer : List ByteArray) (l r : Int) (W : World)
    (B4 : Box W g4 #[.int .i64 b.roots, .slice a1 b.nodes.length c1, .slice a2 b.sites.length c2, .int .i64 b.edges, .slice a3 b.outer.length c3, .slice a4 b.inner.length c4] t4) (hb : BigAt W (.agg #[.int .i64 b.roots, .slice a1 b.nodes.length c1, .slice a2 b.sites.length c2, .int .i64 b.edges, .slice a3 b.outer.length c3, .slice a4 b.inner.length c4]) b) (B5 : Box W g5 #[.int .i64 E] t5) (B7 : Box W g7 #[.func (.func gt) #[] lt] t7) (hc : W.cell? ⟨g9, 4, none⟩ = some (.slice ua outer.length uc)) (hs : StrsAt W (.slice ua outer.length uc) outer) (hl : 0 ≤ l ∧ l < b.edges + b.outer.length) (he : 0 ≤ b.edges ∧ b.edges ≤ 1000) (ho : b.outer.length ≤ 1000) (hE : 0 ≤ E ∧ E ≤ 1000) (hol : outer.length ≤ 1000)
    (hT : ∀ W', Below W.heap.size W W' → Calls Tryz.prog gt (#[.agg #[.int .i64 (endB b l).1, .string (endB b l).2]] ++ lt) W' fun e w' => e = .returned (.agg #[.int .i64 (Tn (endB b l)).1, .string (Tn (endB b l)).2]) ∧ Below W'.heap.size W' w') (hr : endL E outer (Tn (endB b l)) = r) :
    Calls Tryz.prog 153 #[.int .i64 l, .pointer (some ⟨g7, 0, none⟩), .pointer (some ⟨g4, 0, none⟩), .pointer (some ⟨g5, 0, none⟩), .pointer (some ⟨g9, 0, none⟩)] W fun e w' => e = .returned (.int .i64 r) ∧ Below W.heap.size W w' := by
  have HT := Lib.hid hT
  have HR := Lib.hid hr
  have HL := Lib.hid hl
  clear hT hr hl
  have q4 := B4.cell
  have q5 := B5.cell
  have q7 := B7.cell
  go_enter Tryz.func153, Tryz.ntmps153
  go_wp2_with fail
  clear q4 q5 q7
  have g40 := fun y => gr_cell (w := W) (B4.cell 0) y
  have g41 := fun y => gr_cell (w := W) (B4.cell 1) y
  have g42 := fun y => gr_cell (w := W) (B4.cell 2) y
  have g43 := fun y => gr_cell (w := W) (B4.cell 3) y
  have g44 := fun y => gr_cell (w := W) (B4.cell 4) y
  have g45 := fun y => gr_cell (w := W) (B4.cell 5) y
  have g70 := fun y => gr_cell (w := W) (B7.cell 0) y
  refine rg_region [0, 1, 2, 3, 4, 5] [6] (lo := (.cons _ .nil)) (by rfl) (tAt 3 (eVal (.agg #[.int .i64 (endB b l).1, .string (endB b l).2])) (tAt 4 (eVal (.agg #[.int .i64 (Tn (endB b l)).1, .string (Tn (endB b l)).2])) (tAt 5 (ePtr W.heap.size #[.int .i64 0, .string ⟨#[]⟩] 134) tNil))) (by kernel_rfl) (by rfl) (by kernel_rfl) ?_
  refine rg_quiet anti_end [0, 1, 2] [3, 4, 5] (lo := (.cons _ (.cons _ (.cons _ .nil)))) (by rfl) (by kernel_rfl) ?_
  repeat (go_big_quiet_step (fail))
  refine wpQuiet_nil ?_
  refine rg_call 3 rfl rfl 112 #[.agg #[.int .i64 b.roots, .slice a1 b.nodes.length c1, .slice a2 b.sites.length c2, .int .i64 b.edges, .slice a3 b.outer.length c3, .slice a4 b.inner.length c4], .int .i64 l] ?_ ?_ ?_
  · intro w; simp [go_sem]
  · rintro w' ⟨y, rfl⟩ hd
    refine (endOf_ct _ b l _ _ _ (hb.below (gr_below _ _)) HL.out he ho rfl).mono ?_
    rintro e w3 ⟨rfl, bb⟩
    exact ⟨_, rfl, bb, rfl⟩
  intro v hv
  obtain rfl : v = .agg #[.int .i64 (endB b l).1, .string (endB b l).2] := hv
  simp only [Act.put, List.setIfInBounds_toArray, List.set_cons_zero, List.set_cons_succ]
  refine rg_call 4 rfl rfl gt (#[.agg #[.int .i64 (endB b l).1, .string (endB b l).2]] ++ lt) ?_ ?_ ?_
  · intro w; simp [go_sem, eg]
  · rintro w' ⟨y, rfl⟩ hd
    refine (HT.out _ (gr_below _ _)).mono ?_
    rintro e w3 ⟨rfl, bb⟩
    exact ⟨_, rfl, bb, rfl⟩
  intro v hv
  obtain rfl : v = .agg #[.int .i64 (Tn (endB b l)).1, .string (Tn (endB b l)).2] := hv
  simp only [Act.put, List.setIfInBounds_toArray, List.set_cons_zero, List.set_cons_succ]
  refine rg_made 5 rfl rfl ?_ ?_
  · rintro w' ⟨y, rfl⟩ hd
    exact ⟨_, _, by simp [go_sem]; try exact ⟨rfl, rfl⟩, balloc _ _, _, rfl, Box.new _ _ _, (gr_below _ _).size, Nat.le_refl _, by simp⟩
  intro v hv
  obtain ⟨gq, rfl⟩ : ∃ g, v = .pointer (some ⟨g, 0, none⟩) := hv
  simp only [Act.put, List.setIfInBounds_toArray, List.set_cons_zero, List.set_cons_succ]
  intro w4 U hb4 hF
  obtain ⟨_, _, _, _, _, gq', e0, BQ, hql, _⟩ := hF
  obtain rfl : gq = gq' := by simpa using e0
  clear e0 g40 g41 g42 g43 g44 g45 g70 HT
  obtain ⟨q1, hq1⟩ : ∃ x, x = (Tn (endB b l)).1 := ⟨_, rfl⟩
  obtain ⟨q2, hq2⟩ : ∃ x, x = (Tn (endB b l)).2 := ⟨_, rfl⟩
  have HR : Hid (endL E outer (q1, q2) = r) := by show _ = _; rw [hq1, hq2]; exact HR.out
  rw [← hq1, ← hq2]
  clear hq1 hq2
  have BQ' : Box ((w4.setCell ⟨gq, 0, none⟩ (.int .i64 q1)).setCell ⟨gq, 1, none⟩ (.string q2)) gq #[.int .i64 q1, .string q2] 134 := (BQ.set 0 _).set 1 _
  have q := BQ.cell
  have f := BQ.free
  have hgl := BQ.lt
  have hb5 : Below W.heap.size W ((w4.setCell ⟨gq, 0, none⟩ (.int .i64 q1)).setCell ⟨gq, 1, none⟩ (.string q2)) := Below.setCell (Below.setCell hb4 hql _) hql _
  have hb45 : ∀ g < W.heap.size, ((w4.setCell ⟨gq, 0, none⟩ (.int .i64 q1)).setCell ⟨gq, 1, none⟩ (.string q2)).heap[g]? = w4.heap[g]? := fun g hg => by rw [heap_setCell_other _ _ _ _ (by dsimp only; omega), heap_setCell_other _ _ _ _ (by dsimp only; omega)]
  by_cases hz : q2 = ⟨#[]⟩
  · have hz' : q2.toList.isEmpty = true := by rw [hz, ByteArray.toList_eq]; rfl
    have HN : Hid (q1 = r) := by show _ = _; rw [← HR.out]; unfold endL; rw [if_pos hz]
    clear HR hz
    go_wp2_with fail
    go_ret
    exact ⟨by rw [← HN.out]; rfl, hb5⟩
  · have hz' : q2.toList.isEmpty = false := by
      cases hh : q2.toList.isEmpty with
      | false => rfl
      | true =>
        exfalso; apply hz
        apply ba_inj
        rw [ByteArray.toList_eq] at hh
        simpa using hh
    have HN : Hid (E + Lib.idxOfS outer q2 = r) := by show _ = _; rw [← HR.out]; unfold endL; rw [if_neg hz]
    have hix := idx_bd outer q2
    have hwr : IntKind.i64.wrap (E + Lib.idxOfS outer q2) = E + Lib.idxOfS outer q2 := Go.IntWalk.i64_in _ (by omega)
    clear HR hz
    go_wp2_with fail
    obtain ⟨w6, hw6⟩ : ∃ X, X = (w4.setCell ⟨gq, 0, none⟩ (.int .i64 q1)).setCell ⟨gq, 1, none⟩ (.string q2) := ⟨_, rfl⟩
    rw [← hw6] at hb5 BQ' ⊢
    have gE := fun y => gr_cell (w := w6) ((B5.below hb5).cell 0) y
    have gO := fun y => gr_cell (w := w6) ((hb5.cell (World.block_lt_of_cell? W _ hc)).trans hc) y
    have gQ := fun y => gr_cell (w := w6) (BQ'.cell 1) y
    have hs := hs.below hb5
    clear hw6
    refine rg_region [0, 1, 2, 3, 4, 5, 6] [7] (lo := (.cons _ .nil)) (by rfl) (tAt 5 (eVal (.int .i64 (Lib.idxOfS outer q2))) tNil) (by kernel_rfl) (by rfl) (by kernel_rfl) ?_
    refine rg_quiet anti_end [0, 1, 2, 3, 4] [5, 6] (lo := (.cons _ (.cons _ (.cons _ (.cons _ (.cons _ .nil)))))) (by rfl) (by kernel_rfl) ?_
    repeat (go_big_quiet_step (fail))
    refine wpQuiet_nil ?_
    refine rg_call 5 rfl rfl 113 #[.slice ua outer.length uc, .string q2] ?_ ?_ ?_
    · intro w; simp [go_sem]
    · rintro w' ⟨y, rfl⟩ hd
      refine (sIndex_ct _ outer q2 _ (hs.below (gr_below _ _))).mono ?_
      rintro e w3 ⟨rfl, rfl⟩
      exact ⟨_, rfl, Below.refl _ _, rfl⟩
    intro v hv
    obtain rfl : v = .int .i64 (Lib.idxOfS outer q2) := hv
    simp only [Act.put, List.setIfInBounds_toArray, List.set_cons_zero, List.set_cons_succ]
    refine rg_quiet anti_end [6] [] (lo := (.cons _ .nil)) (by rfl) (by kernel_rfl) ?_
    repeat (go_big_quiet_step (fail))
    refine wpQuiet_nil ?_
    intro w7 U hb7 hF
    go_wp2_with fail
    go_ret
    exact ⟨by rw [← HN.out]; rfl, bthen hb5 hb7⟩

set_option maxRecDepth 100000 in
set_option maxHeartbeats 8000000 in
theorem relinked_ct (gt : Nat) (lt : Array Value) (eg : ∀ args w, (callFunc gt args).run Tryz.prog w = .ok (.enter gt args) w) (Tn : Int × ByteArray → Int × ByteArray) (f : Int → Int) (v vo : Value) (b : Big) (E : Int) (outer : List ByteArray) (w : World) (h : BigAt w v b) (hvo : StrsAt w vo outer) (hD : Bds b) (hE : 0 ≤ E ∧ E ≤ 1000) (ho16 : outer.length ≤ 1000)
    (hT : ∀ l, Used b l → ∀ W', Below w.heap.size w W' → Calls Tryz.prog gt (#[.agg #[.int .i64 (endB b l).1, .string (endB b l).2]] ++ lt) W' fun e w' => e = .returned (.agg #[.int .i64 (Tn (endB b l)).1, .string (Tn (endB b l)).2]) ∧ Below W'.heap.size W' w') (hf : ∀ l, Used b l → endL E (sortU outer) (Tn (endB b l)) = f l) (hfI : ∀ l, Used b l → I64 (f l)) :
    Calls Tryz.prog 129 #[v, .int .i64 E, vo, .func (.func gt) #[] lt] w fun e w' => ∃ u bs, e = .returned u ∧ BigOwn w.heap.size w' u (relB b E (sortU outer) f) bs ∧ bs.Nodup ∧ Below w.heap.size w w' := by
  obtain ⟨a1, c1, a2, c2, a3, c3, a4, c4, rfl⟩ := h.shape
  have HLK := Lib.hid (fun (l : Int) (hu : Used b l) (W : World) {ua : Option Addr} {uc : Nat} {g9 : Nat} (B4 : Box W w.heap.size #[.int .i64 b.roots, .slice a1 b.nodes.length c1, .slice a2 b.sites.length c2, .int .i64 b.edges, .slice a3 b.outer.length c3, .slice a4 b.inner.length c4] 29) (B5 : Box W (w.heap.size + 1) #[.int .i64 E] 3) (B7 : Box W (w.heap.size + 2) #[.func (.func gt) #[] lt] 151) (hc : W.cell? ⟨g9, 4, none⟩ = some (.slice ua (sortU outer).length uc)) (hs : StrsAt W (.slice ua (sortU outer).length uc) (sortU outer)) (hb : Below w.heap.size w W) =>
    link_ct gt lt eg Tn (w.heap.size + 2) w.heap.size (w.heap.size + 1) g9 b E (sortU outer) l (f l) W B4 (h.below hb) B5 B7 hc hs (by
      rcases hu with ⟨n, hn, hx⟩ | ⟨x, hx, rfl⟩
      · have := hD.lnk n hn l hx; omega
      · have := hD.wire x hx; omega) (by have := hD.edges; omega) (by have := hD.outer; omega) hE (by have := sortU_len outer; omega) (fun W' hb' => hT l hu W' (Below.trans (a := w) hb (hb'.mono hb.size))) (hf l hu))
  have HFI := Lib.hid hfI
  have hnl := hD.nodes
  have hil := hD.inner
  have HD := Lib.hid hD
  have HOB := Lib.hid (fun W (h : BigAt W (.agg #[.int .i64 b.roots, .slice a1 b.nodes.length c1, .slice a2 b.sites.length c2, .int .i64 b.edges, .slice a3 b.outer.length c3, .slice a4 b.inner.length c4]) b) => RgN.ownBigraph_ct _ b W h (by have := hD.nodes; omega) (fun n hn => by have := hD.links n hn; omega) (by have := hD.sites; omega) hD.outer (by have := hD.inner; omega))
  have HB0 := Lib.hid h
  have HO := Lib.hid hvo
  have HOS := Lib.hid hvo.2
  obtain ⟨oa, oc, rfl, _⟩ := hvo.open
  have hsl := sortU_len outer
  clear hT hf hfI hD h hvo
  go_enter Tryz.func129, Tryz.ntmps129
  go_wp2_with fail
  obtain ⟨w2, hW0⟩ : ∃ W, W = (((w.alloc (.cells #[.int .i64 b.roots, .slice a1 b.nodes.length c1, .slice a2 b.sites.length c2, .int .i64 b.edges, .slice a3 b.outer.length c3, .slice a4 b.inner.length c4] 29)).alloc (.cells #[.int .i64 E] 3)).alloc (.cells #[.func (.func gt) #[] lt] 151)).alloc (.cells #[.int .i64 0, .slice none 0 0, .slice none 0 0, .int .i64 0, .slice none 0 0, .slice none 0 0] 29) := ⟨_, rfl⟩
  first | rw [← hW0] | fail "world"
  have hA : Below w.heap.size w w2 := by rw [hW0]; exact bthen (balloc w _) (bthen (balloc _ _) (bthen (balloc _ _) (balloc _ _)))
  have BA : Box w2 w.heap.size #[.int .i64 b.roots, .slice a1 b.nodes.length c1, .slice a2 b.sites.length c2, .int .i64 b.edges, .slice a3 b.outer.length c3, .slice a4 b.inner.length c4] 29 := by rw [hW0]; exact (((Box.new _ _ _).alloc _).alloc _).alloc _
  have BE : Box w2 (w.heap.size + 1) #[.int .i64 E] 3 := by rw [hW0]; exact ((Box.new' _ _ _ (by simp)).alloc _).alloc _
  have BT : Box w2 (w.heap.size + 2) #[.func (.func gt) #[] lt] 151 := by rw [hW0]; exact (Box.new' _ _ _ (by simp)).alloc _
  have BR : Box w2 (w.heap.size + 3) #[.int .i64 0, .slice none 0 0, .slice none 0 0, .int .i64 0, .slice none 0 0, .slice none 0 0] 29 := by rw [hW0]; exact Box.new' _ _ _ (by simp)
  have hsz : w.heap.size + 4 ≤ w2.heap.size := by rw [hW0]; simp
  clear hW0
  have q := BA.cell
  first | go_wp2_with fail | skip
  refine (HOB.out _ (HB0.out.below hA)).mono ?_
  rintro e w3 ⟨v', bs0, rfl, hB, hN0, hb3⟩
  obtain ⟨d1, e1, d2, e2, d3, e3, d4, e4, rfl⟩ := hB.at.shape
  have BA := BA.below hb3
  have BE := BE.below hb3
  have BT := BT.below hb3
  have BR := BR.below hb3
  have hb := bthen hA hb3
  obtain ⟨n0, hn0, hn1⟩ : ∃ n, n ≤ w2.heap.size ∧ w2.heap.size ≤ n := ⟨_, Nat.le_refl _, Nat.le_refl _⟩
  have hB := hB.mono hn0
  have hs3 : n0 ≤ w3.heap.size := Nat.le_trans hn0 hb3.size
  have hlt := hB.lt
  clear hA hb3 q HOB
  go_wp2_with fail
  obtain ⟨W4, hW4⟩ : ∃ W, W = w3.alloc (.cells #[.int .i64 b.roots, .slice d1 b.nodes.length e1, .slice d2 b.sites.length e2, .int .i64 b.edges, .slice d3 b.outer.length e3, .slice d4 b.inner.length e4] 29) := ⟨_, rfl⟩
  first | rw [← hW4] | fail "world2"
  have b4 : Below w3.heap.size w3 W4 := by rw [hW4]; exact balloc w3 _
  obtain ⟨gp, hgp⟩ : ∃ g, g = w3.heap.size := ⟨_, rfl⟩
  have BP : Box W4 gp #[.int .i64 b.roots, .slice d1 b.nodes.length e1, .slice d2 b.sites.length e2, .int .i64 b.edges, .slice d3 b.outer.length e3, .slice d4 b.inner.length e4] 29 := by rw [hW4]; exact Box.new' _ _ _ hgp
  have hB := hB.keep (keep_below b4 (fun p hp => (hlt p hp).2))
  have hlg : Hid (∀ q ∈ bs0, n0 ≤ q ∧ q < gp) := fun q hq => by rw [hgp]; exact hlt q hq
  have BA := BA.below b4
  have BE := BE.below b4
  have BT := BT.below b4
  have BR := BR.below b4
  have hb := bthen hb b4
  have hng : n0 ≤ gp := by omega
  rw [← hgp]
  clear b4 hW4 hlt hs3 hgp
  have gE := fun y => gr_cell (w := W4) (BE.cell 0) y
  refine rg_region [0, 1, 2, 3] [4, 5, 6] (lo := (.cons _ (.cons _ (.cons _ .nil)))) (by rfl) (tAt 2 (eRow W4.heap.size 1 (sortU outer).length (strRows (sortU outer)) (len_strRows _)) tNil) (by kernel_rfl) (by rfl) (by kernel_rfl) ?_
  refine rg_quiet anti_end [0, 1] [2, 3] (lo := (.cons _ (.cons _ .nil))) (by rfl) (by kernel_rfl) ?_
  repeat (go_big_quiet_step (fail))
  refine wpQuiet_nil ?_
  refine rg_call 2 rfl rfl 152 #[.slice oa outer.length oc] ?_ ?_ ?_
  · intro w; simp [go_sem]
  · rintro w' ⟨y, rfl⟩ hd
    refine (sortedNamesB_ct _ outer _ (HO.out.below (bthen hb (gr_below _ _))) ho16).mono ?_
    rintro e w3 ⟨u1, rfl, hu1, bb⟩
    exact ⟨u1, rfl, bb, gRow_of hu1 (gr_below _ _).size⟩
  intro v hv
  obtain ⟨ua, uc, rfl⟩ : ∃ a c, v = .slice a (sortU outer).length c := hv
  simp only [Act.put, List.setIfInBounds_toArray, List.set_cons_zero, List.set_cons_succ]
  refine rg_quiet anti_end [3] [] (lo := (.cons _ .nil)) (by rfl) (by kernel_rfl) ?_
  repeat (go_big_quiet_step (fail))
  refine wpQuiet_nil ?_
  intro w5 U hb5 hF
  obtain ⟨_, _, _, _, _, hF⟩ := hF
  obtain ⟨hu, _⟩ : gRow W4.heap.size 1 (strRows (sortU outer)) (.slice ua (sortU outer).length uc) w5 _ := hF
  have hul := hu.lt
  have hlt := hB.lt
  have hB5 := hB.keep (keep_below hb5 (fun p hp => (hlt p hp).2))
  have hgl := BP.lt
  have hso : StrsOwn n0 w5 (.slice ua (sortU outer).length uc) (sortU outer) := ⟨hu.mono (by omega), by omega, fun s hs => HOS.out s ((sortU_mem outer s).1 hs)⟩
  obtain ⟨bs, hB6, hN, hq6⟩ := (hB5.edges (n := E) (by unfold I64; omega)).outer hN0 hso (fun q hq h => by have := (hul q hq).1; have := (hlt q h).2; omega)
  have hbs : Hid (∀ q ∈ bs, n0 ≤ q ∧ q ≠ gp) := fun q hq => by
    rcases hq6 q hq with h | h
    · have := hlg.out q h; omega
    · have := (hul q h).1; omega
  have BP5 := BP.below hb5
  have BP6 : Box ((w5.setCell ⟨gp, 3, none⟩ (.int .i64 E)).setCell ⟨gp, 4, none⟩ (.slice ua (sortU outer).length uc)) gp #[.int .i64 b.roots, .slice d1 b.nodes.length e1, .slice d2 b.sites.length e2, .int .i64 E, .slice ua (sortU outer).length uc, .slice d4 b.inner.length e4] 29 := (BP5.set 3 _).set 4 _
  have hB7 := (hB6.keep (keep_setCell (p := ⟨gp, 3, none⟩) (u := .int .i64 E) (fun h => (hbs.out _ h).2 rfl))).keep (keep_setCell (p := ⟨gp, 4, none⟩) (u := .slice ua (sortU outer).length uc) (fun h => (hbs.out _ h).2 rfl))
  have BA5 := BA.below hb5
  have BE5 := BE.below hb5
  have BT5 := BT.below hb5
  have BR5 := BR.below hb5
  have hb6 := bthen hb hb5
  have q := BP5.cell
  have ff := BP5.free
  have hB8 : BigOwn n0 ((w5.setCell ⟨gp, 3, none⟩ (.int .i64 E)).setCell ⟨gp, 4, none⟩ (.slice ua (sortU outer).length uc)) (.agg #[.int .i64 b.roots, .slice d1 b.nodes.length e1, .slice d2 b.sites.length e2, .int .i64 E, .slice ua (sortU outer).length uc, .slice d4 b.inner.length e4]) ⟨b.roots, progN (fun _ _ => f) b.nodes 0 0, b.sites, E, sortU outer, b.inner⟩ bs := by rw [progN_zero]; exact hB7
  have HB8 := Lib.hid hB8
  have BP6' := Lib.hid BP6
  clear hB hB5 hB6 hB7 hB8 hu hso hul hq6 hlt hlg BA BE BT BR hb BP hN0 gE BP6 hgl
  go_wp2_with fail
  obtain ⟨W7, hW7⟩ : ∃ W, W = (w5.setCell ⟨gp, 3, none⟩ (.int .i64 E)).setCell ⟨gp, 4, none⟩ (.slice ua (sortU outer).length uc) := ⟨_, rfl⟩
  have oo : Only [gp] w5 W7 := by rw [hW7]; exact ((Only.refl _ _).setCell (by simp) _).setCell (by simp) _
  have BP := BP6'.out
  have hB := HB8.out
  rw [← hW7] at BP hB ⊢
  clear HB8 BP6' hW7 q ff
  have BA := BA5.keep (oo.block _ BA5.lt (fun h => by have := List.mem_singleton.1 h; omega))
  have BE := BE5.keep (oo.block _ BE5.lt (fun h => by have := List.mem_singleton.1 h; omega))
  have BT := BT5.keep (oo.block _ BT5.lt (fun h => by have := List.mem_singleton.1 h; omega))
  have BR := BR5.keep (oo.block _ BR5.lt (fun h => by have := List.mem_singleton.1 h; omega))
  have hb := hb6.trans (oo.below (B := w.heap.size) (fun p hp => by have := List.mem_singleton.1 hp; omega) (by have := hb6.size; omega))
  have hgl := BP.lt
  clear oo BA5 BE5 BT5 BR5 hb6 BP5
  have q := BP.cell
  go_loopw [28, 12] (fun i _ W => ∃ k : Nat, k ≤ b.nodes.length ∧ i = .int .i64 k ∧ Only bs W7 W ∧ BigOwn n0 W (.agg #[.int .i64 b.roots, .slice d1 b.nodes.length e1, .slice d2 b.sites.length e2, .int .i64 E, .slice ua (sortU outer).length uc, .slice d4 b.inner.length e4]) ⟨b.roots, progN (fun _ _ => f) b.nodes k 0, b.sites, E, sortU outer, b.inner⟩ bs) (fun i _ _ => b.nodes.length - (intOf i).toNat)
  case atStart => exact ⟨0, Nat.zero_le _, rfl, Only.refl _ _, hB⟩
  case round =>
    clear hB q
    obtain ⟨k, hk, rfl, oW, hB⟩ := hrel
    have BAw := BA.keep (oW.block _ BA.lt (fun h => by have := (hbs.out _ h).1; omega))
    have BEw := BE.keep (oW.block _ BE.lt (fun h => by have := (hbs.out _ h).1; omega))
    have BTw := BT.keep (oW.block _ BT.lt (fun h => by have := (hbs.out _ h).1; omega))
    have BRw := BR.keep (oW.block _ BR.lt (fun h => by have := (hbs.out _ h).1; omega))
    have BPw := BP.keep (oW.block _ BP.lt (fun h => (hbs.out _ h).2 rfl))
    have hbw : Below w.heap.size w wr := hb.trans (oW.below (B := w.heap.size) (fun p hp => by have := (hbs.out p hp).1; omega) (by have := hb.size; omega))
    by_cases hkl : k < b.nodes.length
    · obtain ⟨x, hx⟩ := getElem?_of_lt hkl
      obtain ⟨g, vl, rfl, hgb, _, hx1, hx2, hvl, hc0, hc1, hc2⟩ := hB.nodeAt (progN_get0 (f := fun _ _ => f) hx)
      obtain ⟨ya, yc, rfl, _, _, H6⟩ := hvl.open
      have q := BPw.cell
      have HXM : Hid (x ∈ b.nodes) := List.mem_of_getElem? hx
      have hxl := HD.out.links x HXM.out
      have HX := Lib.hid hx
      have H6' := Lib.hid H6
      clear hx H6 hvl
      go_wp2_with fail
      clear q
      obtain ⟨wa, rfl⟩ : ∃ W, W = wr := ⟨_, rfl⟩
      obtain ⟨gx, hgx⟩ : ∃ g, g = wa.heap.size := ⟨_, rfl⟩
      obtain ⟨W8, hW8⟩ : ∃ W, W = wa.alloc (.cells #[.int .i64 x.ctl, .int .i64 x.par, .slice ya x.links.length yc] 57) := ⟨_, rfl⟩
      rw [← hW8]
      have bx : Below wa.heap.size wa W8 := by rw [hW8]; exact balloc _ _
      have BX : Box W8 gx #[.int .i64 x.ctl, .int .i64 x.par, .slice ya x.links.length yc] 57 := by rw [hW8, hgx]; exact Box.new _ _ _
      have hlt := hB.lt
      have hB8 := hB.keep (keep_below bx (fun p hp => (hlt p hp).2))
      have hcl := (bx.cell (World.block_lt_of_cell? wa _ hc2)).trans hc2
      have HGX : Hid (∀ q ∈ bs, q ≠ gx) := fun q hq e => by have := (hlt q hq).2; omega
      have oW8 := oW.more bx
      have hb8 := bthen hbw bx
      have BA8 := BAw.below bx
      have BE8 := BEw.below bx
      have BT8 := BTw.below bx
      have BR8 := BRw.below bx
      have BP8 := BPw.below bx
      rw [← hgx]
      clear hW8 hgx hB hc0 hc1 hc2 hlt bx oW hbw BAw BEw BTw BRw BPw
      go_loopw [35, 13, 14] (fun i _ _ W => ∃ j : Nat, j ≤ x.links.length ∧ i = .int .i64 j ∧ Only bs W8 W ∧ Hid (W.cell? ⟨g, k * 3 + 2, none⟩ = some (.slice ya x.links.length yc)) ∧ BigOwn n0 W (.agg #[.int .i64 b.roots, .slice (some ⟨g, 0, none⟩) b.nodes.length e1, .slice d2 b.sites.length e2, .int .i64 E, .slice ua (sortU outer).length uc, .slice d4 b.inner.length e4]) ⟨b.roots, progN (fun _ _ => f) b.nodes k j, b.sites, E, sortU outer, b.inner⟩ bs) (fun i _ _ _ => x.links.length - (intOf i).toNat)
      case atStart => exact ⟨0, Nat.zero_le _, rfl, Only.refl _ _, Lib.hid hcl, hB8⟩
      case round =>
        clear hcl hB8
        obtain ⟨j, hj, rfl, oI, hcl', hB⟩ := hrel
        have hcl := hcl'.out
        clear hcl'
        have BAw := BA8.keep (oI.block _ BA8.lt (fun h => by have := (hbs.out _ h).1; omega))
        have BEw := BE8.keep (oI.block _ BE8.lt (fun h => by have := (hbs.out _ h).1; omega))
        have BTw := BT8.keep (oI.block _ BT8.lt (fun h => by have := (hbs.out _ h).1; omega))
        have BRw := BR8.keep (oI.block _ BR8.lt (fun h => by have := (hbs.out _ h).1; omega))
        have BPw := BP8.keep (oI.block _ BP8.lt (fun h => (hbs.out _ h).2 rfl))
        have BXw := BX.keep (oI.block _ BX.lt (fun h => HGX.out _ h rfl))
        have hbw : Below w.heap.size w wr := hb8.trans (oI.below (B := w.heap.size) (fun p hp => by have := (hbs.out p hp).1; omega) (by have := hb8.size; omega))
        have hsw : StrsAt wr (.slice ua (sortU outer).length uc) (sortU outer) := by obtain ⟨_, _, _, _, _, h, _⟩ := hB.open; exact h.at
        by_cases hjl : j < x.links.length
        · obtain ⟨yl, hy⟩ := getElem?_of_lt hjl
          obtain ⟨_, gl, ol, rfl, _⟩ := H6'.out j yl hy
          obtain ⟨⟨rfl, hmm, hglb, hglg⟩, hcy, hfz, hzz⟩ := hB.lnk hN (progN_get (f := fun _ _ => f) HX.out) hcl (progI_get (f := fun _ => f) hy)
          have HY := Lib.hid hy
          have HYM : Hid (yl ∈ x.links) := List.mem_of_getElem? hy
          have q := BXw.cell
          clear hy hmm hfz hzz
          go_wp2_with fail
          clear q
          have gX2 := fun y => gr_cell (w := wr) (BXw.cell 2) y
          refine rg_region [0, 1, 2, 3, 4, 5, 6] [7] (lo := (.cons _ .nil)) (by rfl) (tAt 5 (eVal (.int .i64 (f yl))) tNil) (by kernel_rfl) (by rfl) (by kernel_rfl) ?_
          refine rg_quiet anti_end [0, 1, 2, 3, 4] [5, 6] (lo := (.cons _ (.cons _ (.cons _ (.cons _ (.cons _ .nil)))))) (by rfl) (by kernel_rfl) ?_
          repeat (go_big_quiet_step (fail))
          refine wpQuiet_nil ?_
          refine rg_call 5 rfl rfl 153 #[.int .i64 yl, .pointer (some ⟨w.heap.size + 2, 0, none⟩), .pointer (some ⟨w.heap.size, 0, none⟩), .pointer (some ⟨w.heap.size + 1, 0, none⟩), .pointer (some ⟨gp, 0, none⟩)] ?_ ?_ ?_
          · intro w; first | (simp [go_sem]; done) | (simp [go_sem]; rfl) | rfl
          · rintro w' ⟨y, rfl⟩ hd
            refine (HLK.out yl (.inl ⟨x, HXM.out, HYM.out⟩) (gr wr y) (BAw.below (gr_below _ _)) (BEw.below (gr_below _ _)) (BTw.below (gr_below _ _)) ((BPw.below (gr_below _ _)).cell 4) (hsw.below (gr_below _ _)) (bthen hbw (gr_below _ _))).mono ?_
            rintro e w3 ⟨rfl, bb⟩
            exact ⟨_, rfl, bb, rfl⟩
          intro v hv
          obtain rfl : v = .int .i64 (f yl) := hv
          simp only [Act.put, List.setIfInBounds_toArray, List.set_cons_zero, List.set_cons_succ]
          refine rg_quiet anti_end [6] [] (lo := (.cons _ .nil)) (by rfl) (by kernel_rfl) ?_
          repeat (go_big_quiet_step (fail))
          refine wpQuiet_nil ?_
          intro w4 U hb4 hF
          have hlt := hB.lt
          have hB4 := hB.keep (keep_below hb4 (fun p hp => (hlt p hp).2))
          have hcl4 := (hb4.cell (World.block_lt_of_cell? wr _ hcl)).trans hcl
          obtain ⟨hmm, hcy4, hfr4, hst⟩ := hB4.lnk hN (progN_get (f := fun _ _ => f) HX.out) hcl4 (progI_get (f := fun _ => f) HY.out)
          have hst := hst (f yl) (HFI.out yl (.inl ⟨x, HXM.out, HYM.out⟩))
          have HST := Lib.hid hst
          have oI4 := oI.more hb4
          clear hst hB hB4 hF gX2 hcy oI hlt hcl hmm
          have hcl5 := Lib.hid ((cell_keep (j := k * 3 + 2) (heap_setCell_other w4 ⟨gl, j, none⟩ g (.int .i64 (f yl)) hglg.symm)).trans hcl4)
          go_wp2_with fail
          go_roundw
          case rel => exact ⟨j + 1, by omega, by go_num, oI4.setCell hglb _, hcl5, by rw [progN_set HX.out HY.out]; exact HST.out⟩
          case measure => simp [intOf]; omega
        · have e : j = x.links.length := by omega
          subst e
          rw [progN_next HX.out] at hB
          have q := BXw.cell
          go_wp2_with fail
          go_roundw
          case rel => exact ⟨k + 1, by omega, by go_num, oW8.trans oI, hB⟩
          case measure => simp [intOf]; omega
    · have e : k = b.nodes.length := by omega
      subst e
      rw [progN_full, allN_map] at hB
      have q := BPw.cell
      go_wp2_with fail
      clear q
      obtain ⟨wa, rfl⟩ : ∃ W, W = wr := ⟨_, rfl⟩
      obtain ⟨NS, hNS⟩ : ∃ l, l = (b.nodes.map fun n => { n with links := n.links.map f }) := ⟨_, rfl⟩
      rw [← hNS] at hB
      have HNS := Lib.hid hNS
      have hB0 : BigOwn n0 wa (.agg #[.int .i64 b.roots, .slice d1 b.nodes.length e1, .slice d2 b.sites.length e2, .int .i64 E, .slice ua (sortU outer).length uc, .slice d4 b.inner.length e4]) ⟨b.roots, NS, b.sites, E, sortU outer, progW (fun _ => f) b.inner 0⟩ bs := by rw [progW_zero]; exact hB
      have hbA := hbw
      have BAA := BAw
      have BEA := BEw
      have BTA := BTw
      have BRA := BRw
      have BPA := BPw
      clear hB hNS hbw BAw BEw BTw BRw BPw oW
      go_loopw [52, 15, 16] (fun i _ _ W => ∃ j : Nat, j ≤ b.inner.length ∧ i = .int .i64 j ∧ Only bs wa W ∧ BigOwn n0 W (.agg #[.int .i64 b.roots, .slice d1 b.nodes.length e1, .slice d2 b.sites.length e2, .int .i64 E, .slice ua (sortU outer).length uc, .slice d4 b.inner.length e4]) ⟨b.roots, NS, b.sites, E, sortU outer, progW (fun _ => f) b.inner j⟩ bs) (fun i _ _ _ => b.inner.length - (intOf i).toNat)
      case atStart => exact ⟨0, Nat.zero_le _, rfl, Only.refl _ _, hB0⟩
      case round =>
        clear hB0
        obtain ⟨j, hj, rfl, oW, hB⟩ := hrel
        have BAw := BAA.keep (oW.block _ BAA.lt (fun h => by have := (hbs.out _ h).1; omega))
        have BEw := BEA.keep (oW.block _ BEA.lt (fun h => by have := (hbs.out _ h).1; omega))
        have BTw := BTA.keep (oW.block _ BTA.lt (fun h => by have := (hbs.out _ h).1; omega))
        have BRw := BRA.keep (oW.block _ BRA.lt (fun h => by have := (hbs.out _ h).1; omega))
        have BPw := BPA.keep (oW.block _ BPA.lt (fun h => (hbs.out _ h).2 rfl))
        have hbw : Below w.heap.size w wr := hbA.trans (oW.below (B := w.heap.size) (fun p hp => by have := (hbs.out p hp).1; omega) (by have := hbA.size; omega))
        by_cases hjl : j < b.inner.length
        · obtain ⟨x, hx⟩ := getElem?_of_lt hjl
          obtain ⟨g, rfl, hgb, hc0, hc1, _, _⟩ := hB.wire hN (progW_get (f := fun _ => f) hx)
          have q := BPw.cell
          have HXM : Hid (x ∈ b.inner) := List.mem_of_getElem? hx
          have HX := Lib.hid hx
          clear hx
          go_wp2_with fail
          clear q
          obtain ⟨wb, rfl⟩ : ∃ W, W = wr := ⟨_, rfl⟩
          obtain ⟨gx, hgx⟩ : ∃ g, g = wb.heap.size := ⟨_, rfl⟩
          obtain ⟨W8, hW8⟩ : ∃ W, W = wb.alloc (.cells #[.string x.name, .int .i64 x.link] 87) := ⟨_, rfl⟩
          rw [← hW8]
          have bx : Below wb.heap.size wb W8 := by rw [hW8]; exact balloc _ _
          have BX : Box W8 gx #[.string x.name, .int .i64 x.link] 87 := by rw [hW8, hgx]; exact Box.new _ _ _
          have hlt := hB.lt
          have hB8 := hB.keep (keep_below bx (fun p hp => (hlt p hp).2))
          have oW8 := oW.more bx
          have hb8 := bthen hbw bx
          have BA8 := BAw.below bx
          have BE8 := BEw.below bx
          have BT8 := BTw.below bx
          have BR8 := BRw.below bx
          have BP8 := BPw.below bx
          have hs8 : StrsAt W8 (.slice ua (sortU outer).length uc) (sortU outer) := by obtain ⟨_, _, _, _, _, h, _⟩ := hB8.open; exact h.at
          rw [← hgx]
          clear hW8 hgx hB hc0 hc1 hlt bx oW hbw BAw BEw BTw BRw BPw
          have gX1 := fun y => gr_cell (w := W8) (BX.cell 1) y
          have gP5 := fun y => gr_cell (w := W8) (BP8.cell 5) y
          refine rg_region [0, 1, 2, 3, 4, 5, 6, 7, 8] [9] (lo := (.cons _ .nil)) (by rfl) (tAt 6 (eVal (.int .i64 (f x.link))) tNil) (by kernel_rfl) (by rfl) (by kernel_rfl) ?_
          refine rg_quiet anti_end [0, 1, 2, 3, 4, 5] [6, 7, 8] (lo := (.cons _ (.cons _ (.cons _ (.cons _ (.cons _ (.cons _ .nil))))))) (by rfl) (by kernel_rfl) ?_
          repeat (go_big_quiet_step (fail))
          refine wpQuiet_nil ?_
          refine rg_call 6 rfl rfl 153 #[.int .i64 x.link, .pointer (some ⟨w.heap.size + 2, 0, none⟩), .pointer (some ⟨w.heap.size, 0, none⟩), .pointer (some ⟨w.heap.size + 1, 0, none⟩), .pointer (some ⟨gp, 0, none⟩)] ?_ ?_ ?_
          · intro w; first | (simp [go_sem]; done) | (simp [go_sem]; rfl) | rfl
          · rintro w' ⟨y, rfl⟩ hd
            refine (HLK.out x.link (.inr ⟨x, HXM.out, rfl⟩) (gr W8 y) (BA8.below (gr_below _ _)) (BE8.below (gr_below _ _)) (BT8.below (gr_below _ _)) ((BP8.below (gr_below _ _)).cell 4) (hs8.below (gr_below _ _)) (bthen hb8 (gr_below _ _))).mono ?_
            rintro e w3 ⟨rfl, bb⟩
            exact ⟨_, rfl, bb, rfl⟩
          intro v hv
          obtain rfl : v = .int .i64 (f x.link) := hv
          simp only [Act.put, List.setIfInBounds_toArray, List.set_cons_zero, List.set_cons_succ]
          refine rg_quiet anti_end [7, 8] [] (lo := (.cons _ (.cons _ .nil))) (by rfl) (by kernel_rfl) ?_
          repeat (go_big_quiet_step (fail))
          refine wpQuiet_nil ?_
          intro w5 U hb5 hF
          have hlt := hB8.lt
          have hB5 := hB8.keep (keep_below hb5 (fun p hp => (hlt p hp).2))
          obtain ⟨g', e', _, hc5, hd5, hfr5, hst⟩ := hB5.wire hN (progW_get (f := fun _ => f) HX.out)
          obtain rfl : g = g' := by simpa using e'
          have hst := hst (f x.link) (HFI.out x.link (.inr ⟨x, HXM.out, rfl⟩))
          have HST := Lib.hid hst
          have oW5 := oW8.more hb5
          clear hst hB8 hB5 hF gX1 gP5 oW8 hlt e'
          go_wp2_with fail
          go_roundw
          case rel => exact ⟨j + 1, by omega, by go_num, oW5.setCell hgb _, by rw [progW_set HX.out]; exact HST.out⟩
          case measure => simp [intOf]; omega
        · have e : j = b.inner.length := by omega
          subst e
          rw [progW_full, allW_map, HNS.out] at hB
          have q := BPw.cell
          have q2 := BRw.cell
          have f2 := BRw.free
          go_wp2_with fail
          refine bodyPost_ret (v := .agg #[.int .i64 b.roots, .slice d1 b.nodes.length e1, .slice d2 b.sites.length e2, .int .i64 E, .slice ua (sortU outer).length uc, .slice d4 b.inner.length e4]) (by simp [results, Tryz.results129, go_sem, q2]) rfl ⟨_, bs, rfl, (fill6 hB (by omega) _ _ _ _ _ _).mono (by omega), hN, fill6b hbw (by omega) _ _ _ _ _ _⟩
end Go.Proofs.YthgelhglfbgagaaGreatDoor
