/- A name more. -/
import Derived.Test.YthbdmcobpcoajaaGreatDoorValid
import Derived.Test.YthbdmcobpcoajaaGreatDoorOutS
import Derived.Test.YthbdmcobpcoajaaGreatDoorRelink
import Derived.Test.YthbdmcobpcoajaaGreatDoorSortS
import Derived.Test.YthbdmcobpcoajaaGreatDoorG4
import Derived.Test.YthbdmcobpcoajaaGreatDoorCntB
import Derived.Deep.RegionHeld3
namespace Go.Proofs.YthbdmcobpcoajaaGreatDoor
open Go Go.RowKit Go.BigFrame

def addL (b : Big) (name : ByteArray) : List ByteArray := sortU (b.outer ++ [name])
def addR (b : Big) (name : ByteArray) : Big := relB b b.edges (addL b name) (outF b b.outer (addL b name))
def addC (sig : List Ctl) (b : Big) (name : ByteArray) : Bool := goodB sig b && !Lib.containsS b.outer name
def addP (sig : List Ctl) (b : Big) (name : ByteArray) : Big := if addC sig b name then validR sig (addR b name) else noBig
def addB (sig : List Ctl) (b : Big) (name : ByteArray) : Bool := addC sig b name && goodB sig (addR b name)
theorem addL_len (b : Big) (name : ByteArray) : (addL b name).length ≤ b.outer.length + 1 := by
  have := sortU_len (b.outer ++ [name]); simpa [addL] using this
theorem addP_no {sig : List Ctl} {b : Big} {name : ByteArray} (h : addC sig b name = false) : addP sig b name = noBig ∧ addB sig b name = false := by
  unfold addP addB; rw [h]; exact ⟨rfl, rfl⟩
theorem addP_yes {sig : List Ctl} {b : Big} {name : ByteArray} (h : addC sig b name = true) : addP sig b name = validR sig (addR b name) ∧ addB sig b name = goodB sig (addR b name) := by
  unfold addP addB; rw [h]; exact ⟨rfl, rfl⟩
theorem addP_bad {sig : List Ctl} {b : Big} {name : ByteArray} (h : nameB name = false) : addP sig b name = noBig ∧ addB sig b name = false := by
  have hb : goodB sig (addR b name) = false := by
    cases hg : goodB sig (addR b name) with
    | false => rfl
    | true =>
      have := (good_of hg).name (s := name) (by show name ∈ addL b name; unfold addL; rw [sortU_mem]; simp)
      rw [h] at this; cases this
  constructor
  · unfold addP validR; rw [hb]; split <;> rfl
  · unfold addB; rw [hb, Bool.and_false]
theorem addP_len (sig : List Ctl) (b : Big) (name : ByteArray) : (cntB (addP sig b name) : Int) ≤ 100000000 := by
  have hno : (cntB noBig : Int) ≤ 100000000 := by unfold cntB cntN noBig; simp [sumOf_nil]
  unfold addP validR
  split
  · split
    · rename_i h
      have hD := (good_of h).bds
      exact cntB_bd (by have := hD.nodes; omega) (fun n hn => by have := hD.links n hn; omega) (by have := hD.sites; omega) (by have := hD.outer; omega) (by have := hD.inner; omega)
    · exact hno
  · exact hno
theorem sContains_ct (v : Value) (l : List ByteArray) (x : ByteArray) (w : World) (h : StrsAt w v l) : Calls Tryz.prog 121 #[v, .string x] w fun e w' => e = .returned (.bool (Lib.containsS l x)) ∧ w' = w := by
  obtain ⟨a, c, rfl, _, hl, h3⟩ := h.open
  cases hl0 : l with
  | nil => exact Tryz.slices_Contains_string_empty a c x w
  | cons s l' =>
    rw [← hl0]
    obtain ⟨_, b, o, rfl, _⟩ := h3 0 s (by rw [hl0]; rfl)
    refine (Tryz.slices_Contains_string b o l.length c l x w (Nat.le_refl _) (by omega) (fun j hj => ?_)).mono ?_
    · obtain ⟨y, hy⟩ := getElem?_of_lt hj
      obtain ⟨_, b', o', e', hc⟩ := h3 j y hy
      obtain ⟨rfl, rfl⟩ : b = b' ∧ o = o' := by simpa using e'
      rw [hc, getD_of hy]
    · rintro e w' ⟨rfl, rfl⟩
      rw [List.take_length]; exact ⟨rfl, rfl⟩
theorem cloneA_ct (v : Value) (l : List ByteArray) (w : World) (h : StrsAt w v l) (h16 : l.length ≤ 1000) : Calls Tryz.prog 100 #[v] w fun e w' => ∃ a c, e = .returned (.slice a l.length c) ∧ Acc w' w.heap.size 9 1 (.slice a l.length c) (strRows l) ∧ Below w.heap.size w w' := by
  obtain ⟨a, c, rfl, hlc, _, h3⟩ := h.open
  have hr : ∀ r ∈ strRows l, r.length = 1 := by simp [strRows]
  cases a with
  | none =>
    have hl : l = [] := by
      cases l with
      | nil => rfl
      | cons s l => obtain ⟨_, b, o, e, _⟩ := h3 0 s rfl; cases e
    subst hl
    refine (Tryz.slices_Clone_string_nil _ _ w).mono ?_
    rintro e w' ⟨rfl, rfl⟩
    exact ⟨none, 0, rfl, Acc.nil _ _ _ _, Below.refl _ _⟩
  | some ad =>
    cases hl : l with
    | nil =>
      refine (Tryz.slices_Clone_string_zero ad c w).mono ?_
      rintro e w' ⟨v', rfl, hown, _, hb⟩
      have hacc : Acc w' w.heap.size 9 1 v' (strRows []) := ⟨hown, by simp [strRows]⟩
      obtain ⟨a', c', rfl⟩ := hacc.shape
      exact ⟨a', c', rfl, hacc, hb⟩
    | cons s l' =>
      rw [← hl]
      have h0 := h3 0 s (by rw [hl]; rfl)
      obtain ⟨_, b, o, e, _⟩ := h0
      obtain rfl : ad = ⟨b, o, none⟩ := by simpa using e
      refine (Tryz.slices_Clone_string b o l.length c l w (Nat.le_refl _) (by omega) ?_).mono ?_
      · intro j hj
        obtain ⟨x, hx⟩ := getElem?_of_lt hj
        obtain ⟨_, b', o', e', hc⟩ := h3 j x hx
        obtain ⟨rfl, rfl⟩ : b = b' ∧ o = o' := by simpa using e'
        rw [hc, List.getD_eq_getElem?_getD, hx]; rfl
      · rintro e w' ⟨v', rfl, hown, _, hb⟩
        rw [List.take_length] at hown
        have hacc : Acc w' w.heap.size 9 1 v' (strRows l) := ⟨by rw [strs_flat]; simpa [strRows] using hown, hr⟩
        obtain ⟨a', c', rfl⟩ := hacc.shape
        rw [len_strRows] at hacc ⊢
        exact ⟨a', c', rfl, hacc, hb⟩
section
variable {P : Program} {ops : Array Oper} {o : Oper} {a : Act} {Q : Exit → Act → World → Prop}
/-- The append as a step of a region that draws its order. -/
theorem appRs {K : Act → World → Prop} {E : Prop} (w : World) (hgd : o.guard = none) (s x : Operand) (t : TypeId) (ho : o.op = .call { callee := .builtin .append, args := #[s, x], argTypes := #[t, t] })
    (base e sz bytes M : Nat) (z : Value) (ht : P.underlying t = some (.slice e)) (hinf : (P.info? e).map (fun i => (i.zero, i.size, i.bytes)) = some (some z, sz, bytes)) (hzs : z.cells.size = sz) (hsz : 0 < sz) (hby : bytes ≤ 128)
    (v : Value) (cs : List (List Value)) (hs : a.eval s = v) (hown : Acc w base e sz v cs) (xv : Value) (cs2 : List (List Value)) (hx : a.eval x = xv) (hr : RowAt M w xv sz cs2) (h1 : ∀ r ∈ cs2, ∀ u ∈ r, u.oneCell' = true) (hlen : cs.length + cs2.length ≤ 1073741824) (hbase : base ≤ w.heap.size)
    (h : ∀ v' w', Acc w' base e sz v' (cs ++ cs2) → w.grownBy w' v.ownBlock → K (a.put o.dst v') w') :
    if Region.wanted o (yielded ops a.tmps) = true then Oper.wp P o a w K Q else E := by
  obtain ⟨v', w', hrun, h2, h3, h4⟩ := runR (P := P) w t o.type e base sz bytes M z ht hinf hzs hsz hby v cs hown xv cs2 hr h1 hlen hbase
  rw [if_pos (wanted_none hgd)]
  unfold Oper.wp execOp
  simp only [ho, resolve, invoke, builtin, Sem.run_bind, Sem.run_pure, Result.andThen_ok, List.map_toArray, List.map_cons, List.map_nil, hs, hx, hrun]
  exact h v' w' h2 h3
end
set_option maxRecDepth 100000 in
set_option maxHeartbeats 8000000 in
theorem specAddName_ct (vs v : Value) (sig : List Ctl) (b : Big) (name : ByteArray) (w : World) (h : Ctx w vs v sig b) (hnz : name.size ≤ 1073741824) : Calls Tryz.prog 41 #[vs, v, .string name] w (GivesBig (addP sig b name) (addB sig b name) w) := by
  obtain ⟨a1, c1, a2, c2, a3, c3, a4, c4, rfl⟩ := h.big.shape
  have hA := bthen (balloc w (.cells #[.int .i64 b.roots, .slice a1 b.nodes.length c1, .slice a2 b.sites.length c2, .int .i64 b.edges, .slice a3 b.outer.length c3, .slice a4 b.inner.length c4] 34)) (balloc (w.alloc (.cells #[.int .i64 b.roots, .slice a1 b.nodes.length c1, .slice a2 b.sites.length c2, .int .i64 b.edges, .slice a3 b.outer.length c3, .slice a4 b.inner.length c4] 34)) (.cells #[.int .i64 0, .slice none 0 0, .slice none 0 0, .int .i64 0, .slice none 0 0, .slice none 0 0] 34))
  obtain ⟨W0, hW0⟩ : ∃ W, W = (w.alloc (.cells #[.int .i64 b.roots, .slice a1 b.nodes.length c1, .slice a2 b.sites.length c2, .int .i64 b.edges, .slice a3 b.outer.length c3, .slice a4 b.inner.length c4] 34)).alloc (.cells #[.int .i64 0, .slice none 0 0, .slice none 0 0, .int .i64 0, .slice none 0 0, .slice none 0 0] 34) := ⟨_, rfl⟩
  have BA : Box W0 w.heap.size #[.int .i64 b.roots, .slice a1 b.nodes.length c1, .slice a2 b.sites.length c2, .int .i64 b.edges, .slice a3 b.outer.length c3, .slice a4 b.inner.length c4] 34 := by rw [hW0]; exact (Box.new _ _ _).alloc _
  have BR : Box W0 (w.heap.size + 1) #[.int .i64 0, .slice none 0 0, .slice none 0 0, .int .i64 0, .slice none 0 0, .slice none 0 0] 34 := by rw [hW0]; exact Box.new' _ _ _ (by simp)
  have hs0 : w.heap.size + 2 ≤ W0.heap.size := by rw [hW0]; simp
  rw [← hW0] at hA
  cases hg : goodB sig b with
  | false =>
    obtain ⟨e1, e2⟩ := addP_no (sig := sig) (b := b) (name := name) (by unfold addC; rw [hg]; rfl)
    rw [e1, e2]
    clear e1 e2
    go_enter Tryz.func41, Tryz.ntmps41
    go_wp2_with fail
    rw [← hW0]
    clear hW0
    refine (l2Good_ct _ _ sig b false _ (h.below hA) hg).mono ?_
    rintro e w2 ⟨rfl, hb⟩
    have BA := BA.below hb
    have BR := BR.below hb
    have hs1 := hb.size
    have hb := bthen hA hb
    have q := BR.cell
    have f := BR.free
    go_wp2_with fail
    refine bodyPost_ret (v := .tuple #[.agg #[.int .i64 0, .slice none 0 0, .slice none 0 0, .int .i64 0, .slice none 0 0, .slice none 0 0], .bool false]) (by simp [results, Tryz.results41, go_sem, q]) rfl ⟨_, _, rfl, noBig_own _ _, by simp, ?_⟩
    iterate 6 refine Below.setCell ?_ (by simp) _
    exact hb
  | true =>
    have hG := good_of hg
    cases hc : Lib.containsS b.outer name with
    | true =>
      obtain ⟨e1, e2⟩ := addP_no (sig := sig) (b := b) (name := name) (by unfold addC; rw [hg, hc]; rfl)
      rw [e1, e2]
      clear e1 e2
      have hix : 0 ≤ Lib.idxOfS b.outer name := by unfold Lib.containsS at hc; simpa using hc
      go_enter Tryz.func41, Tryz.ntmps41
      go_wp2_with fail
      rw [← hW0]
      clear hW0
      refine (l2Good_ct _ _ sig b true _ (h.below hA) hg).mono ?_
      rintro e w2 ⟨rfl, hb⟩
      have BA := BA.below hb
      have BR := BR.below hb
      have hs1 := hb.size
      have hb := bthen hA hb
      have q := BA.cell
      clear hg
      have h3 := h.big.parts
      obtain ⟨_, _, _, _, _, _, _, _, e0, _, _, h3, _, _, _⟩ := h3
      simp only [Value.agg.injEq, Array.mk.injEq, List.cons.injEq, and_true, true_and, Value.slice.injEq] at e0
      obtain ⟨⟨rfl, rfl⟩, ⟨rfl, rfl⟩, ⟨rfl, rfl⟩, rfl, rfl⟩ := e0
      go_wp2_with fail
      refine (l2At_ct _ b.outer name _ (h3.below hb)).mono ?_
      rintro e w3 ⟨rfl, rfl⟩
      clear q
      have q := BR.cell
      have f := BR.free
      go_wp2_with fail
      refine bodyPost_ret (v := .tuple #[.agg #[.int .i64 0, .slice none 0 0, .slice none 0 0, .int .i64 0, .slice none 0 0, .slice none 0 0], .bool false]) (by simp [results, Tryz.results41, go_sem, q]) rfl ⟨_, _, rfl, noBig_own _ _, by simp, ?_⟩
      iterate 6 refine Below.setCell ?_ (by simp) _
      exact hb
    | false =>
      obtain ⟨e1, e2⟩ := addP_yes (sig := sig) (b := b) (name := name) (by unfold addC; rw [hg, hc]; rfl)
      rw [e1, e2]
      clear e1 e2
      have hix : ¬ 0 ≤ Lib.idxOfS b.outer name := by unfold Lib.containsS at hc; simpa using hc
      go_enter Tryz.func41, Tryz.ntmps41
      go_wp2_with fail
      rw [← hW0]
      clear hW0
      refine (l2Good_ct _ _ sig b true _ (h.below hA) hg).mono ?_
      rintro e w2 ⟨rfl, hb⟩
      have BA := BA.below hb
      have BR := BR.below hb
      have hs1 := hb.size
      have hb := bthen hA hb
      have q := BA.cell
      clear hg
      have h3 := h.big.parts
      obtain ⟨_, _, _, _, _, _, _, _, e0, _, _, h3, _, _, _⟩ := h3
      simp only [Value.agg.injEq, Array.mk.injEq, List.cons.injEq, and_true, true_and, Value.slice.injEq] at e0
      obtain ⟨⟨rfl, rfl⟩, ⟨rfl, rfl⟩, ⟨rfl, rfl⟩, rfl, rfl⟩ := e0
      go_wp2_with fail
      refine (l2At_ct _ b.outer name _ (h3.below hb)).mono ?_
      rintro e w3 ⟨rfl, rfl⟩
      clear q
      have hO0 := h.big.parts
      obtain ⟨_, _, _, _, _, _, _, _, e0, _, _, h3, _, _, _⟩ := hO0
      simp only [Value.agg.injEq, Array.mk.injEq, List.cons.injEq, and_true, true_and, Value.slice.injEq] at e0
      obtain ⟨⟨rfl, rfl⟩, ⟨rfl, rfl⟩, ⟨rfl, rfl⟩, rfl, rfl⟩ := e0
      have H3 := Lib.hid h3
      have HSZ := Lib.hid h3.2
      have hD := hG.bds
      have hol := hD.outer
      have HOUT := Lib.hid (fun vo W (h : BigAt W (.agg #[.int .i64 b.roots, .slice a1 b.nodes.length c1, .slice a2 b.sites.length c2, .int .i64 b.edges, .slice a3 b.outer.length c3, .slice a4 b.inner.length c4]) b) (hn : StrsAt W (.slice a3 b.outer.length c3) b.outer) (ho : StrsAt W vo (addL b name)) => l2Outer_ct _ _ vo b b.outer (addL b name) W h hn ho hD rfl (by have := addL_len b name; omega))
      have hbig := Lib.hid h.big
      have hsig := Lib.hid h.sig
      have hll := addL_len b name
      clear h3 hD
      obtain ⟨g1, hg1, hg1'⟩ : ∃ g, g ≤ w3.heap.size ∧ w3.heap.size ≤ g := ⟨_, Nat.le_refl _, Nat.le_refl _⟩
      have bx := balloc w3 (.cells #[] 9)
      have q := (BA.below bx).cell
      have acc0 : Acc (w3.alloc (.cells #[] 9)) g1 9 1 (.slice (some ⟨w3.heap.size, 0, none⟩) 0 0) [] := by
        have := Acc.lit0 w3 g1 9 1 (by omega)
        simpa using this
      have hr0 := (H3.out.below (bthen hb bx)).1
      go_wp2_with (at_builtin; refine appR _ rfl (.tmp 21) (.tmp 23) 25 rfl g1 9 1 16 1073741824 (.string ⟨#[]⟩) Tryz.underlying25 inf_str rfl (by decide) (by decide) _ [] (by rfl) acc0 _ (strRows b.outer) (by rfl) hr0 (one_strRows _) (by rw [len_strRows]; simp; omega) (by simp; omega) ?_)
      intro v2 w5 acc2 hg _
      obtain ⟨ua, uc, rfl⟩ := acc2.shape
      rw [len_strRows] at acc2 ⊢
      have b5 := grown_below (bx.mono hg1) acc0 hg (Nat.le_refl _) (by simp; omega)
      have bx5 := balloc w5 (.cells #[.string name] 9)
      have hs5 := b5.size
      go_wp2_with (at_builtin; refine appR _ rfl (.tmp 24) (.tmp 26) 25 rfl g1 9 1 16 1 (.string ⟨#[]⟩) Tryz.underlying25 inf_str rfl (by decide) (by decide) _ (strRows b.outer) (by rfl) (acc2.below bx5) _ [[.string name]] (by rfl) (rowAt_one (row := [.string name]) (heap_alloc_new _ _) (by decide)) (by simp [Value.oneCell']) (by rw [len_strRows]; simp; omega) (by simp; omega) ?_)
      intro v3 w6 acc3 hg2 _
      have b6 := grown_below (b5.trans (bx5.mono (by omega))) (acc2.below bx5) hg2 (Nat.le_refl _) (by simp; omega)
      obtain ⟨va, vc, rfl⟩ := acc3.shape
      obtain ⟨L, hL⟩ : ∃ L, L = b.outer ++ [name] := ⟨_, rfl⟩
      have HLL := Lib.hid hL
      have hL17 : L.length ≤ 17 := by rw [hL]; simp; omega
      have hln : (strRows b.outer ++ [[Value.string name]]).length = L.length := by rw [hL]; simp [strRows]
      have hlr : strRows b.outer ++ [[Value.string name]] = strRows L := by rw [hL]; simp [strRows]
      rw [hln] at acc3 ⊢
      rw [hlr] at acc3
      have HAL : Hid (sortU L = addL b name) := by show _ = _; rw [hL]; rfl
      clear hL
      have hst : StrsAt w6 (.slice va L.length vc) L := by
        have := acc3.own.row (M := 1073741824) (by simp [strRows]; omega)
        exact ⟨this, fun s hs => by
          rw [HLL.out] at hs
          rcases List.mem_append.1 hs with h | h
          · exact HSZ.out s h
          · rw [List.mem_singleton.1 h]; exact hnz⟩
      have hb6 := hb.trans (b6.mono (by omega))
      have BA6 := BA.keep (b6.block _ (by omega))
      have BR6 := BR.keep (b6.block _ (by omega))
      have hs6 : w.heap.size + 2 ≤ w6.heap.size := by have := b6.size; have := bx5.size; have := bx.size; omega
      clear acc0 acc2 acc3 hg hg2 b5 bx bx5 hln hlr q BA BR
      go_wp2_with fail
      refine (l2SortedB_ct _ L _ hst (by omega)).mono ?_
      rintro e w7 ⟨u, rfl, hu, b7⟩
      rw [HAL.out] at hu
      have hul : StrsOwn w6.heap.size w7 u (addL b name) := ⟨hu, by omega, fun s hs => hst.2 s ((sortU_mem _ s).1 (by rw [HAL.out]; exact hs))⟩
      obtain ⟨sa, sc, rfl⟩ := hul.shp
      have hus := hul.at
      have BA7 := BA6.below b7
      have BR7 := BR6.below b7
      have hb7 := bthen hb6 b7
      have hs7 := Nat.le_trans hs6 b7.size
      have q := BA7.cell
      clear hu hst hul BA6 BR6 b6 b7 hr0
      go_wp2_with fail
      refine (HOUT.out _ _ (hbig.out.below hb7) (H3.out.below hb7) hus).mono ?_
      rintro e w8 ⟨u, bs, rfl, hB, hN, b8⟩
      have hb8 := bthen hb7 b8
      have BR8 := BR7.below b8
      have hs8 := Nat.le_trans hs7 b8.size
      have hB8 : BigOwn (w.heap.size + 2) w8 u (addR b name) bs := hB.mono (by have := b8.size; have := hb7.size; omega)
      obtain ⟨d1, e1, d2, e2, d3, e3, d4, e4, rfl⟩ := hB8.at.shape
      clear q HOUT hus hB
      go_wp2_with fail
      refine (l2Give_ct _ _ sig (addR b name) _ ⟨hsig.out.below hb8, hB8.at⟩ hB8 hN (by omega)).mono ?_
      rintro e w9 ⟨u, bs2, rfl, hB9, hN9, b9⟩
      obtain ⟨f1, g1', f2, g2', f3, g3', f4, g4', rfl⟩ := hB9.at.shape
      have BR9 := BR8.below b9
      have q2 := BR9.cell
      have ff := BR9.free
      have hb9 := bthen hb8 b9
      clear hB8
      go_wp2_with fail
      refine bodyPost_ret (v := .tuple #[.agg #[.int .i64 (validR sig (addR b name)).roots, .slice f1 (validR sig (addR b name)).nodes.length g1', .slice f2 (validR sig (addR b name)).sites.length g2', .int .i64 (validR sig (addR b name)).edges, .slice f3 (validR sig (addR b name)).outer.length g3', .slice f4 (validR sig (addR b name)).inner.length g4'], .bool (goodB sig (addR b name))]) (by simp [results, Tryz.results41, go_sem, q2]) rfl ⟨_, bs2, rfl, (fill6 hB9 (by omega) _ _ _ _ _ _).mono (by omega), hN9, fill6b hb9 (by omega) _ _ _ _ _ _⟩
theorem endL_out {sig : List Ctl} {b : Big} {names : List ByteArray} {l : Int} (hG : Good sig b) (hu : Used b l) : endL b.edges names (endB b l) = outF b b.outer names l := by
  have hb := used_bd hG.bds hu
  unfold endB outF
  by_cases h : l < b.edges
  · rw [if_pos h, if_pos h]; unfold endL; rw [if_pos rfl]
  · rw [if_neg h, if_neg h]
    obtain ⟨x, hx⟩ := getElem?_of_lt (l := b.outer) (i := (l - b.edges).toNat) (by omega)
    rw [List.getD_eq_getElem?_getD, hx]
    have hn := name_pos (hG.name (List.mem_of_getElem? hx))
    have hne : ¬ x = ⟨#[]⟩ := fun e' => by
      rw [e'] at hn
      exact absurd hn.1 (by decide)
    show (if x = ⟨#[]⟩ then (0 : Int) else b.edges + Lib.idxOfS names x) = _
    rw [if_neg hne]; rfl
theorem same_ct (p : Int) (s : ByteArray) (w : World) : Calls Tryz.prog 123 (#[.agg #[.int .i64 p, .string s]] ++ #[]) w fun e w' => e = .returned (.agg #[.int .i64 p, .string s]) ∧ Below w.heap.size w w' := by
  rw [Array.append_empty]
  go_enter Tryz.func123, Tryz.ntmps123
  go_wp2
  exact bodyPost_ret (v := .agg #[.int .i64 p, .string s]) (by simp [results, Tryz.results123, go_sem]) rfl ⟨rfl, by repeat (first | exact Below.refl _ _ | refine Below.alloc ?_ (by simp; try omega) _ | refine Below.setCell ?_ (by simp; try omega) _)⟩
set_option maxRecDepth 100000 in
set_option maxHeartbeats 8000000 in
theorem implAddName_ct (vs v : Value) (sig : List Ctl) (b : Big) (name : ByteArray) (w : World) (h : Ctx w vs v sig b) (hnz : name.size ≤ 1073741824) : Calls Tryz.prog 42 #[vs, v, .string name] w (GivesBig (addP sig b name) (addB sig b name) w) := by
  obtain ⟨a1, c1, a2, c2, a3, c3, a4, c4, rfl⟩ := h.big.shape
  have hA := bthen (balloc w (.cells #[.int .i64 b.roots, .slice a1 b.nodes.length c1, .slice a2 b.sites.length c2, .int .i64 b.edges, .slice a3 b.outer.length c3, .slice a4 b.inner.length c4] 34)) (balloc (w.alloc (.cells #[.int .i64 b.roots, .slice a1 b.nodes.length c1, .slice a2 b.sites.length c2, .int .i64 b.edges, .slice a3 b.outer.length c3, .slice a4 b.inner.length c4] 34)) (.cells #[.int .i64 0, .slice none 0 0, .slice none 0 0, .int .i64 0, .slice none 0 0, .slice none 0 0] 34))
  obtain ⟨W0, hW0⟩ : ∃ W, W = (w.alloc (.cells #[.int .i64 b.roots, .slice a1 b.nodes.length c1, .slice a2 b.sites.length c2, .int .i64 b.edges, .slice a3 b.outer.length c3, .slice a4 b.inner.length c4] 34)).alloc (.cells #[.int .i64 0, .slice none 0 0, .slice none 0 0, .int .i64 0, .slice none 0 0, .slice none 0 0] 34) := ⟨_, rfl⟩
  have BA : Box W0 w.heap.size #[.int .i64 b.roots, .slice a1 b.nodes.length c1, .slice a2 b.sites.length c2, .int .i64 b.edges, .slice a3 b.outer.length c3, .slice a4 b.inner.length c4] 34 := by rw [hW0]; exact (Box.new _ _ _).alloc _
  have BR : Box W0 (w.heap.size + 1) #[.int .i64 0, .slice none 0 0, .slice none 0 0, .int .i64 0, .slice none 0 0, .slice none 0 0] 34 := by rw [hW0]; exact Box.new' _ _ _ (by simp)
  have hs0 : w.heap.size + 2 ≤ W0.heap.size := by rw [hW0]; simp
  rw [← hW0] at hA
  cases hg : goodB sig b with
  | false =>
    obtain ⟨e1, e2⟩ := addP_no (sig := sig) (b := b) (name := name) (by unfold addC; rw [hg]; rfl)
    rw [e1, e2]
    clear e1 e2
    go_enter Tryz.func42, Tryz.ntmps42
    go_wp2_with fail
    rw [← hW0]
    clear hW0
    refine (implIsBigraph_ct _ _ sig b false _ (h.below hA) hg).mono ?_
    rintro e w2 ⟨rfl, hb⟩
    have BA := BA.below hb
    have BR := BR.below hb
    have hs1 := hb.size
    have hb := bthen hA hb
    have q := BR.cell
    have f := BR.free
    go_wp2_with fail
    refine bodyPost_ret (v := .tuple #[.agg #[.int .i64 0, .slice none 0 0, .slice none 0 0, .int .i64 0, .slice none 0 0, .slice none 0 0], .bool false]) (by simp [results, Tryz.results42, go_sem, q]) rfl ⟨_, _, rfl, noBig_own _ _, by simp, ?_⟩
    iterate 6 refine Below.setCell ?_ (by simp) _
    exact hb
  | true =>
    have hG := good_of hg
    cases hnm : nameB name with
    | false =>
      obtain ⟨e1, e2⟩ := addP_bad (sig := sig) (b := b) hnm
      rw [e1, e2]
      clear e1 e2
      go_enter Tryz.func42, Tryz.ntmps42
      go_wp2_with fail
      rw [← hW0]
      clear hW0
      refine (implIsBigraph_ct _ _ sig b true _ (h.below hA) hg).mono ?_
      rintro e w2 ⟨rfl, hb⟩
      have BA := BA.below hb
      have BR := BR.below hb
      have hs1 := hb.size
      have hb := bthen hA hb
      clear hg
      go_wp2_with fail
      refine (isName_ct name hnz false hnm _).mono ?_
      rintro e w3 ⟨rfl, hb3⟩
      have BR := BR.below hb3
      have hb := bthen hb hb3
      have q := BR.cell
      have f := BR.free
      go_wp2_with fail
      refine bodyPost_ret (v := .tuple #[.agg #[.int .i64 0, .slice none 0 0, .slice none 0 0, .int .i64 0, .slice none 0 0, .slice none 0 0], .bool false]) (by simp [results, Tryz.results42, go_sem, q]) rfl ⟨_, _, rfl, noBig_own _ _, by simp, ?_⟩
      iterate 6 refine Below.setCell ?_ (by simp) _
      exact hb
    | true =>
      cases hc : Lib.containsS b.outer name with
      | true =>
        obtain ⟨e1, e2⟩ := addP_no (sig := sig) (b := b) (name := name) (by unfold addC; rw [hg, hc]; rfl)
        rw [e1, e2]
        clear e1 e2
        have h3 := h.big.parts
        obtain ⟨_, _, _, _, _, _, _, _, e0, _, _, h3, _, _, _⟩ := h3
        simp only [Value.agg.injEq, Array.mk.injEq, List.cons.injEq, and_true, true_and, Value.slice.injEq] at e0
        obtain ⟨⟨rfl, rfl⟩, ⟨rfl, rfl⟩, ⟨rfl, rfl⟩, rfl, rfl⟩ := e0
        go_enter Tryz.func42, Tryz.ntmps42
        go_wp2_with fail
        rw [← hW0]
        clear hW0
        refine (implIsBigraph_ct _ _ sig b true _ (h.below hA) hg).mono ?_
        rintro e w2 ⟨rfl, hb⟩
        have BA := BA.below hb
        have BR := BR.below hb
        have hs1 := hb.size
        have hb := bthen hA hb
        clear hg
        go_wp2_with fail
        refine (isName_ct name hnz true hnm _).mono ?_
        rintro e w3 ⟨rfl, hb3⟩
        have BA := BA.below hb3
        have BR := BR.below hb3
        have hb := bthen hb hb3
        have q := BA.cell
        go_wp2_with fail
        refine (sContains_ct _ b.outer name _ (h3.below hb)).mono ?_
        rintro e w4 ⟨rfl, rfl⟩
        rw [hc]
        clear q
        have q := BR.cell
        have f := BR.free
        go_wp2_with fail
        refine bodyPost_ret (v := .tuple #[.agg #[.int .i64 0, .slice none 0 0, .slice none 0 0, .int .i64 0, .slice none 0 0, .slice none 0 0], .bool false]) (by simp [results, Tryz.results42, go_sem, q]) rfl ⟨_, _, rfl, noBig_own _ _, by simp, ?_⟩
        iterate 6 refine Below.setCell ?_ (by simp) _
        exact hb
      | false =>
        obtain ⟨e1, e2⟩ := addP_yes (sig := sig) (b := b) (name := name) (by unfold addC; rw [hg, hc]; rfl)
        rw [e1, e2]
        clear e1 e2
        go_enter Tryz.func42, Tryz.ntmps42
        go_wp2_with fail
        rw [← hW0]
        clear hW0
        refine (implIsBigraph_ct _ _ sig b true _ (h.below hA) hg).mono ?_
        rintro e w2 ⟨rfl, hb⟩
        have BA := BA.below hb
        have BR := BR.below hb
        have hs1 := hb.size
        have hb := bthen hA hb
        clear hg
        go_wp2_with fail
        refine (isName_ct name hnz true hnm _).mono ?_
        rintro e w3 ⟨rfl, hb3⟩
        have BA := BA.below hb3
        have BR := BR.below hb3
        have hs2 := hb3.size
        have hb := bthen hb hb3
        have q := BA.cell
        have h3' := h.big.parts
        obtain ⟨_, _, _, _, _, _, _, _, e0', _, _, h3', _, _, _⟩ := h3'
        simp only [Value.agg.injEq, Array.mk.injEq, List.cons.injEq, and_true, true_and, Value.slice.injEq] at e0'
        obtain ⟨⟨rfl, rfl⟩, ⟨rfl, rfl⟩, ⟨rfl, rfl⟩, rfl, rfl⟩ := e0'
        go_wp2_with fail
        refine (sContains_ct _ b.outer name _ (h3'.below hb)).mono ?_
        rintro e w4 ⟨rfl, rfl⟩
        rw [hc]
        clear q hc hnm h3' hb3
        go_wp2_with fail
        have hO0 := h.big.parts
        obtain ⟨_, _, _, _, _, _, _, _, e0, _, _, h3, _, _, _⟩ := hO0
        simp only [Value.agg.injEq, Array.mk.injEq, List.cons.injEq, and_true, true_and, Value.slice.injEq] at e0
        obtain ⟨⟨rfl, rfl⟩, ⟨rfl, rfl⟩, ⟨rfl, rfl⟩, rfl, rfl⟩ := e0
        have H3 := Lib.hid h3
        have hD := hG.bds
        have hol := hD.outer
        obtain ⟨L, hL⟩ : ∃ L, L = b.outer ++ [name] := ⟨_, rfl⟩
        have HLS := Lib.hid (show ∀ s ∈ L, s.size ≤ 1073741824 from fun s hs => by
          rw [hL] at hs
          rcases List.mem_append.1 hs with h | h
          · exact h3.2 s h
          · rw [List.mem_singleton.1 h]; exact hnz)
        have hL17 : L.length ≤ 17 := by rw [hL]; simp; omega
        have HLN : Hid ((strRows b.outer ++ [[Value.string name]]).length = L.length) := by show _ = _; rw [hL]; simp [strRows]
        have HLR : Hid (strRows b.outer ++ [[Value.string name]] = strRows L) := by show _ = _; rw [hL]; simp [strRows]
        have HAR : Hid (relB b b.edges (sortU L) (outF b b.outer (addL b name)) = addR b name) := by show _ = _; rw [hL]; rfl
        have HREL0 := fun vo W (h : BigAt W (.agg #[.int .i64 b.roots, .slice a1 b.nodes.length c1, .slice a2 b.sites.length c2, .int .i64 b.edges, .slice a3 b.outer.length c3, .slice a4 b.inner.length c4]) b) (ho : StrsAt W vo L) => relinked_ct 123 #[] (by intros; rfl) (fun e => e) (outF b b.outer (addL b name)) _ vo b b.edges L W h ho hD (by have := hD.edges; omega) (by omega) (fun l _ W' _ => same_ct _ _ W') (fun l hu => by rw [hL]; exact endL_out hG hu) (fun l hu => outF_bd hD (used_bd hD hu) (by have := addL_len b name; omega))
        rw [HAR.out] at HREL0
        have HREL := Lib.hid HREL0
        have hbig := Lib.hid h.big
        have hsig := Lib.hid h.sig
        have hsz : w.heap.size + 2 ≤ w4.heap.size := by omega
        have hb := bdrew hb
        have BA : Box w4.drew w.heap.size _ _ := BA
        have BR : Box w4.drew (w.heap.size + 1) _ _ := BR
        have hsz : w.heap.size + 2 ≤ w4.drew.heap.size := hsz
        clear h3 hD hL HREL0 h hG
        go_region_held3 (fun w' => w'.cell? ⟨w.heap.size, 0, none⟩ = some (.int .i64 b.roots) ∧ w'.cell? ⟨w.heap.size, 1, none⟩ = some (.slice a1 b.nodes.length c1) ∧ w'.cell? ⟨w.heap.size, 2, none⟩ = some (.slice a2 b.sites.length c2) ∧ w'.cell? ⟨w.heap.size, 3, none⟩ = some (.int .i64 b.edges) ∧ w'.cell? ⟨w.heap.size, 4, none⟩ = some (.slice a3 b.outer.length c3) ∧ w'.cell? ⟨w.heap.size, 5, none⟩ = some (.slice a4 b.inner.length c4)) (first | with_reducible exact ks | with_reducible exact kt _ _ _ _ _ _ | exact ⟨BA.cell 0, BA.cell 1, BA.cell 2, BA.cell 3, BA.cell 4, BA.cell 5⟩ | exact ⟨(BA.alloc _).cell 0, (BA.alloc _).cell 1, (BA.alloc _).cell 2, (BA.alloc _).cell 3, (BA.alloc _).cell 4, (BA.alloc _).cell 5⟩) (first | (go_at_call 100; (first | (refine (cloneA_ct _ b.outer _ (H3.out.below hb) (by omega)).mono ?_; rintro e w4 ⟨ca, cc, rfl, acc, bb⟩; have acc := acc.le (b' := w.heap.size + 2) hsz; have BA := BA.below bb; have BR := BR.below bb; have hb := bthen hb bb; have hsz := Nat.le_trans hsz bb.size; clear bb) | (refine (cloneA_ct _ b.outer _ (H3.out.below (bthen hb (balloc _ _))) (by omega)).mono ?_; rintro e w4 ⟨ca, cc, rfl, acc, bb⟩; have hlit := (Box.new _ _ _).below bb; have acc := acc.le (b' := w.heap.size + 2) (Nat.le_trans hsz (balloc _ _).size); have BA := (BA.alloc _).below bb; have BR := (BR.alloc _).below bb; have hb := bthen (bthen hb (balloc _ _)) bb; have hsz := Nat.le_trans (Nat.le_trans hsz (balloc _ _).size) bb.size; clear bb))) | (refine appRs _ rfl (.tmp 30) (.tmp 32) 25 rfl (w.heap.size + 2) 9 1 16 1 (.string ⟨#[]⟩) Tryz.underlying25 inf_str rfl (by decide) (by decide) _ (strRows b.outer) (by rfl) (acc.below (balloc _ _)) _ [[Value.string name]] (by rfl) (rowAt_one (row := [Value.string name]) (heap_alloc_new _ _) (by decide)) (by simp [Value.oneCell']) (by rw [len_strRows]; simp; omega) (Nat.le_trans hsz (balloc _ _).size) ?_; intro v6 w6 acc6 hg6; have BA := (BA.alloc _).keep (grown_block (acc.below (balloc _ _)) hg6 (by omega) (BA.alloc _).lt); have BR := (BR.alloc _).keep (grown_block (acc.below (balloc _ _)) hg6 (by omega) (BR.alloc _).lt); have hb := grown_below (bthen hb (balloc _ _)) (acc.below (balloc _ _)) hg6 (by omega) (bthen hb (balloc _ _)).size; have hsz := Nat.le_trans (Nat.le_trans hsz (balloc _ _).size) hg6.size; obtain ⟨va, vc, rfl⟩ := acc6.shape; rw [HLN.out] at acc6 ⊢; rw [HLR.out] at acc6; have hst : StrsAt w6 (.slice va L.length vc) L := ⟨acc6.own.row (by rw [len_strRows]; omega), HLS.out⟩; clear acc6 acc) | (refine appRs _ rfl (.tmp 30) (.tmp 32) 25 rfl (w.heap.size + 2) 9 1 16 1 (.string ⟨#[]⟩) Tryz.underlying25 inf_str rfl (by decide) (by decide) _ (strRows b.outer) (by rfl) acc _ [[Value.string name]] (by rfl) (rowAt_one (row := [Value.string name]) hlit (by decide)) (by simp [Value.oneCell']) (by rw [len_strRows]; simp; omega) hsz ?_; intro v6 w6 acc6 hg6; have BA := BA.keep (grown_block acc hg6 (by omega) BA.lt); have BR := BR.keep (grown_block acc hg6 (by omega) BR.lt); have hb := grown_below hb acc hg6 (by omega) hb.size; have hsz := Nat.le_trans hsz hg6.size; obtain ⟨va, vc, rfl⟩ := acc6.shape; rw [HLN.out] at acc6 ⊢; rw [HLR.out] at acc6; have hst : StrsAt w6 (.slice va L.length vc) L := ⟨acc6.own.row (by rw [len_strRows]; omega), HLS.out⟩; clear acc6 acc) | (go_at_call 122; (with_reducible refine (HREL.out _ _ (hbig.out.below hb) hst).mono ?_); rintro e w7 ⟨u7, bs7, rfl, hB7, hN7, bb⟩; obtain ⟨d1, e1, d2, e2, d3, e3, d4, e4, rfl⟩ := hB7.at.shape; have BA := BA.below bb; have BR := BR.below bb; have hb := bthen hb bb; have hsz := Nat.le_trans hsz bb.size; clear bb) | (go_at_call 109; (with_reducible refine (valid_ct _ _ sig (addR b name) _ ⟨hsig.out.below hb, hB7.at⟩).mono ?_); rintro e w8 ⟨u8, bs8, rfl, hB8, hN8, bb⟩; obtain ⟨f1, g1, f2, g2, f3, g3, f4, g4, rfl⟩ := hB8.at.shape; have BA := BA.below bb; have BR := BR.below bb; have hB8 := hB8.mono (B' := w.heap.size + 2) hsz; have hb := bthen hb bb; have BS : ∀ u0 u1 u2 u3 u4 u5, Box ((((((w8.setCell ⟨w.heap.size + 1, 0, none⟩ u0).setCell ⟨w.heap.size + 1, 1, none⟩ u1).setCell ⟨w.heap.size + 1, 2, none⟩ u2).setCell ⟨w.heap.size + 1, 3, none⟩ u3).setCell ⟨w.heap.size + 1, 4, none⟩ u4).setCell ⟨w.heap.size + 1, 5, none⟩ u5) w.heap.size #[.int .i64 b.roots, .slice a1 b.nodes.length c1, .slice a2 b.sites.length c2, .int .i64 b.edges, .slice a3 b.outer.length c3, .slice a4 b.inner.length c4] 34 := (fun u0 u1 u2 u3 u4 u5 => (((((BA.other _ (by simp)).other _ (by simp)).other _ (by simp)).other _ (by simp)).other _ (by simp)).other _ (by simp)); have ks : w8.cell? ⟨w.heap.size, 0, none⟩ = some (.int .i64 b.roots) ∧ w8.cell? ⟨w.heap.size, 1, none⟩ = some (.slice a1 b.nodes.length c1) ∧ w8.cell? ⟨w.heap.size, 2, none⟩ = some (.slice a2 b.sites.length c2) ∧ w8.cell? ⟨w.heap.size, 3, none⟩ = some (.int .i64 b.edges) ∧ w8.cell? ⟨w.heap.size, 4, none⟩ = some (.slice a3 b.outer.length c3) ∧ w8.cell? ⟨w.heap.size, 5, none⟩ = some (.slice a4 b.inner.length c4) := ⟨BA.cell 0, BA.cell 1, BA.cell 2, BA.cell 3, BA.cell 4, BA.cell 5⟩; have kt : ∀ u0 u1 u2 u3 u4 u5 : Value, ((((((w8.setCell ⟨w.heap.size + 1, 0, none⟩ u0).setCell ⟨w.heap.size + 1, 1, none⟩ u1).setCell ⟨w.heap.size + 1, 2, none⟩ u2).setCell ⟨w.heap.size + 1, 3, none⟩ u3).setCell ⟨w.heap.size + 1, 4, none⟩ u4).setCell ⟨w.heap.size + 1, 5, none⟩ u5).cell? ⟨w.heap.size, 0, none⟩ = some (.int .i64 b.roots) ∧ ((((((w8.setCell ⟨w.heap.size + 1, 0, none⟩ u0).setCell ⟨w.heap.size + 1, 1, none⟩ u1).setCell ⟨w.heap.size + 1, 2, none⟩ u2).setCell ⟨w.heap.size + 1, 3, none⟩ u3).setCell ⟨w.heap.size + 1, 4, none⟩ u4).setCell ⟨w.heap.size + 1, 5, none⟩ u5).cell? ⟨w.heap.size, 1, none⟩ = some (.slice a1 b.nodes.length c1) ∧ ((((((w8.setCell ⟨w.heap.size + 1, 0, none⟩ u0).setCell ⟨w.heap.size + 1, 1, none⟩ u1).setCell ⟨w.heap.size + 1, 2, none⟩ u2).setCell ⟨w.heap.size + 1, 3, none⟩ u3).setCell ⟨w.heap.size + 1, 4, none⟩ u4).setCell ⟨w.heap.size + 1, 5, none⟩ u5).cell? ⟨w.heap.size, 2, none⟩ = some (.slice a2 b.sites.length c2) ∧ ((((((w8.setCell ⟨w.heap.size + 1, 0, none⟩ u0).setCell ⟨w.heap.size + 1, 1, none⟩ u1).setCell ⟨w.heap.size + 1, 2, none⟩ u2).setCell ⟨w.heap.size + 1, 3, none⟩ u3).setCell ⟨w.heap.size + 1, 4, none⟩ u4).setCell ⟨w.heap.size + 1, 5, none⟩ u5).cell? ⟨w.heap.size, 3, none⟩ = some (.int .i64 b.edges) ∧ ((((((w8.setCell ⟨w.heap.size + 1, 0, none⟩ u0).setCell ⟨w.heap.size + 1, 1, none⟩ u1).setCell ⟨w.heap.size + 1, 2, none⟩ u2).setCell ⟨w.heap.size + 1, 3, none⟩ u3).setCell ⟨w.heap.size + 1, 4, none⟩ u4).setCell ⟨w.heap.size + 1, 5, none⟩ u5).cell? ⟨w.heap.size, 4, none⟩ = some (.slice a3 b.outer.length c3) ∧ ((((((w8.setCell ⟨w.heap.size + 1, 0, none⟩ u0).setCell ⟨w.heap.size + 1, 1, none⟩ u1).setCell ⟨w.heap.size + 1, 2, none⟩ u2).setCell ⟨w.heap.size + 1, 3, none⟩ u3).setCell ⟨w.heap.size + 1, 4, none⟩ u4).setCell ⟨w.heap.size + 1, 5, none⟩ u5).cell? ⟨w.heap.size, 5, none⟩ = some (.slice a4 b.inner.length c4) := (fun u0 u1 u2 u3 u4 u5 => ⟨(BS u0 u1 u2 u3 u4 u5).cell 0, (BS u0 u1 u2 u3 u4 u5).cell 1, (BS u0 u1 u2 u3 u4 u5).cell 2, (BS u0 u1 u2 u3 u4 u5).cell 3, (BS u0 u1 u2 u3 u4 u5).cell 4, (BS u0 u1 u2 u3 u4 u5).cell 5⟩); have q2 := BR.cell; have ff := BR.free; clear bb BS))
        all_goals
          go_wp2_with fail
          refine bodyPost_ret (v := .tuple #[.agg #[.int .i64 (validR sig (addR b name)).roots, .slice f1 (validR sig (addR b name)).nodes.length g1, .slice f2 (validR sig (addR b name)).sites.length g2, .int .i64 (validR sig (addR b name)).edges, .slice f3 (validR sig (addR b name)).outer.length g3, .slice f4 (validR sig (addR b name)).inner.length g4], .bool (goodB sig (addR b name))]) (by simp [results, Tryz.results42, go_sem, q2]) rfl ⟨_, bs8, rfl, (fill6 hB8 (by omega) _ _ _ _ _ _).mono (by omega), hN8, fill6b hb (by omega) _ _ _ _ _ _⟩
end Go.Proofs.YthbdmcobpcoajaaGreatDoor
