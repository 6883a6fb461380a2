/- Other numbers of nodes and edges: the reference's. -/
import Derived.Test.YthbdmcobpcoajaaGreatDoorValid
import Derived.Test.YthbdmcobpcoajaaGreatDoorRenB
import Derived.Test.YthbdmcobpcoajaaGreatDoorOrder4
import Derived.Test.YthbdmcobpcoajaaGreatDoorCntB
namespace Go.Proofs.YthbdmcobpcoajaaGreatDoor
open Go Go.RowKit Go.BigFrame

def perB (l : List Int) (n : Int) : Bool := eachB l && decide ((l.length : Int) = n)
theorem each_range {l : List Int} (h : eachB l = true) : ∀ x ∈ l, 0 ≤ x ∧ x < (l.length : Int) := by
  intro x hx
  have h1 := (each_iff l).1 h
  have hp : (sortL l).Perm l := List.mergeSort_perm _ _
  have hm : x ∈ idxL l.length := by rw [← h1]; exact hp.mem_iff.2 hx
  unfold idxL at hm
  obtain ⟨k, hk, rfl⟩ := List.mem_map.1 hm
  have := List.mem_range.1 hk
  omega
def renC (sig : List Ctl) (b : Big) (tn es : List Int) : Bool := goodB sig b && (perB tn b.nodes.length && perB es b.edges)
def rnP (sig : List Ctl) (b : Big) (tn es : List Int) : Big := if renC sig b tn es then validR sig (renB b tn es) else noBig
def rnB (sig : List Ctl) (b : Big) (tn es : List Int) : Bool := renC sig b tn es && goodB sig (renB b tn es)
theorem rn_no {sig : List Ctl} {b : Big} {tn es : List Int} (h : renC sig b tn es = false) : rnP sig b tn es = noBig ∧ rnB sig b tn es = false := by
  unfold rnP rnB; rw [h]; exact ⟨rfl, rfl⟩
theorem rn_yes {sig : List Ctl} {b : Big} {tn es : List Int} (h : renC sig b tn es = true) : rnP sig b tn es = validR sig (renB b tn es) ∧ rnB sig b tn es = goodB sig (renB b tn es) := by
  unfold rnP rnB; rw [h]; exact ⟨rfl, rfl⟩
theorem rnP_len (sig : List Ctl) (b : Big) (tn es : List Int) : (cntB (rnP sig b tn es) : Int) ≤ 100000000 := by
  have hno : (cntB noBig : Int) ≤ 100000000 := by unfold cntB cntN noBig; simp [sumOf_nil]
  unfold rnP validR
  split
  · split
    · rename_i h
      have hD := (good_of h).bds
      exact cntB_bd (by have := hD.nodes; omega) (fun n hn => by have := hD.links n hn; omega) (by have := hD.sites; omega) (by have := hD.outer; omega) (by have := hD.inner; omega)
    · exact hno
  · exact hno
set_option maxHeartbeats 1000000 in
theorem l2EachN_ct (n : Nat) (v : Value) (l : List Int) (r : Bool) (hr : perB l n = r) (w : World) (h : IntsAt w v l) (hn : n ≤ 1000000) : Calls Tryz.prog 103 #[v, .int .i64 n] w fun e w' => e = .returned (.bool r) ∧ w' = w := by
  have HR : Hid (perB l n = r) := hr
  clear hr
  obtain ⟨a, c, rfl, _, h2, _⟩ := h.open
  go_enter Tryz.func103, Tryz.ntmps103
  go_wp2_with fail
  go_loop [5] (fun i => ∃ k : Nat, k ≤ n ∧ i = .int .i64 k ∧ Hid (((List.range k).all fun i => l.contains (i : Int)) = true)) (fun i => n - (intOf i).toNat)
  case atStart => exact ⟨0, Nat.zero_le _, rfl, (by show _ = _; simp)⟩
  case round =>
    obtain ⟨k, hk, rfl, HA⟩ := hrel
    by_cases hlt : k < n
    · cases hc : l.contains (k : Int) with
      | false =>
        have HN : Hid (r = false) := by
          show _ = _; rw [← HR.out]; unfold perB
          by_cases e : (l.length : Int) = n
          · have : eachB l = false := by unfold eachB; rw [List.all_eq_false]; exact ⟨k, List.mem_range.2 (by omega), by simp only [hc]; simp⟩
            rw [this]; rfl
          · rw [decide_eq_false e, Bool.and_false]
        go_wp2_with (go_at_call 180; refine (l1Has_ct _ l _ false hc _ h).mono ?_; rintro e w2 ⟨rfl, hw⟩; subst hw)
        go_ret
        exact ⟨by rw [HN.out]; rfl, rfl⟩
      | true =>
        have HT : Hid (((List.range (k + 1)).all fun i => l.contains (i : Int)) = true) := each_snoc HA.out hc
        go_wp2_with (go_at_call 180; refine (l1Has_ct _ l _ true hc _ h).mono ?_; rintro e w2 ⟨rfl, hw⟩; subst hw)
        go_round
        case rel => exact ⟨k + 1, by omega, by go_num, HT⟩
        case measure => simp [intOf]; omega
    · have HN : Hid (decide (l.length = n) = r) := by
        have := HA.out
        rw [show k = n by omega] at this
        show _ = _; rw [← HR.out]; unfold perB eachB
        by_cases e : l.length = n
        · rw [e, this, Bool.true_and]; simp
        · rw [decide_eq_false e, decide_eq_false (by omega), Bool.and_false]
      go_wp2_with fail
      go_ret
      exact ⟨ret_bool (by rw [← HN.out, Bool.eq_iff_iff]; simp only [beq_iff_eq, decide_eq_true_eq]; omega), rfl⟩
theorem l2EachZ_ct (n : Int) (v : Value) (l : List Int) (r : Bool) (hr : perB l n = r) (w : World) (h : IntsAt w v l) (hn : 0 ≤ n ∧ n ≤ 1000000) : Calls Tryz.prog 103 #[v, .int .i64 n] w fun e w' => e = .returned (.bool r) ∧ w' = w := by
  obtain ⟨m, rfl⟩ : ∃ m : Nat, n = m := ⟨n.toNat, by omega⟩
  exact l2EachN_ct m v l r hr w h (by omega)
set_option maxRecDepth 100000 in
set_option maxHeartbeats 8000000 in
theorem specRenumberNodes_ct (vs v vt ve : Value) (sig : List Ctl) (b : Big) (tn es : List Int) (w : World) (h : Ctx w vs v sig b) (ht : IntsAt w vt tn) (he : IntsAt w ve es) : Calls Tryz.prog 34 #[vs, v, vt, ve] w (GivesBig (rnP sig b tn es) (rnB sig b tn es) w) := by
  have HT := Lib.hid ht
  have HES := Lib.hid he
  clear ht he
  obtain ⟨a1, c1, a2, c2, a3, c3, a4, c4, rfl⟩ := h.big.shape
  have hA := bthen (balloc w (.cells #[.int .i64 b.roots, .slice a1 b.nodes.length c1, .slice a2 b.sites.length c2, .int .i64 b.edges, .slice a3 b.outer.length c3, .slice a4 b.inner.length c4] 34)) (balloc (w.alloc (.cells #[.int .i64 b.roots, .slice a1 b.nodes.length c1, .slice a2 b.sites.length c2, .int .i64 b.edges, .slice a3 b.outer.length c3, .slice a4 b.inner.length c4] 34)) (.cells #[.int .i64 0, .slice none 0 0, .slice none 0 0, .int .i64 0, .slice none 0 0, .slice none 0 0] 34))
  obtain ⟨W0, hW0⟩ : ∃ W, W = (w.alloc (.cells #[.int .i64 b.roots, .slice a1 b.nodes.length c1, .slice a2 b.sites.length c2, .int .i64 b.edges, .slice a3 b.outer.length c3, .slice a4 b.inner.length c4] 34)).alloc (.cells #[.int .i64 0, .slice none 0 0, .slice none 0 0, .int .i64 0, .slice none 0 0, .slice none 0 0] 34) := ⟨_, rfl⟩
  have BA : Box W0 w.heap.size #[.int .i64 b.roots, .slice a1 b.nodes.length c1, .slice a2 b.sites.length c2, .int .i64 b.edges, .slice a3 b.outer.length c3, .slice a4 b.inner.length c4] 34 := by rw [hW0]; exact (Box.new _ _ _).alloc _
  have BR : Box W0 (w.heap.size + 1) #[.int .i64 0, .slice none 0 0, .slice none 0 0, .int .i64 0, .slice none 0 0, .slice none 0 0] 34 := by rw [hW0]; exact Box.new' _ _ _ (by simp)
  have hs0 : w.heap.size + 2 ≤ W0.heap.size := by rw [hW0]; simp
  rw [← hW0] at hA
  cases hg : goodB sig b with
  | false =>
    obtain ⟨e1, e2⟩ := rn_no (sig := sig) (b := b) (tn := tn) (es := es) (by unfold renC; rw [hg]; rfl)
    rw [e1, e2]
    clear e1 e2
    go_enter Tryz.func34, Tryz.ntmps34
    go_wp2_with fail
    rw [← hW0]
    clear hW0
    refine (l2Good_ct _ _ sig b false _ (h.below hA) hg).mono ?_
    rintro e w2 ⟨rfl, hb⟩
    have BA := BA.below hb
    have BR := BR.below hb
    have hs1 := hb.size
    have hb := bthen hA hb
    have q := BR.cell
    have f := BR.free
    go_wp2_with fail
    refine bodyPost_ret (v := .tuple #[.agg #[.int .i64 0, .slice none 0 0, .slice none 0 0, .int .i64 0, .slice none 0 0, .slice none 0 0], .bool false]) (by simp [results, Tryz.results34, go_sem, q]) rfl ⟨_, _, rfl, noBig_own _ _, by simp, ?_⟩
    iterate 6 refine Below.setCell ?_ (by simp) _
    exact hb
  | true =>
    have hG := good_of hg
    have hD := hG.bds
    have hnl := hD.nodes
    cases h1 : perB tn b.nodes.length with
    | false =>
      obtain ⟨e1, e2⟩ := rn_no (sig := sig) (b := b) (tn := tn) (es := es) (by unfold renC; rw [hg, h1]; rfl)
      rw [e1, e2]
      clear e1 e2
      go_enter Tryz.func34, Tryz.ntmps34
      go_wp2_with fail
      rw [← hW0]
      clear hW0
      refine (l2Good_ct _ _ sig b true _ (h.below hA) hg).mono ?_
      rintro e w2 ⟨rfl, hb⟩
      have BA := BA.below hb
      have BR := BR.below hb
      have hs1 := hb.size
      have hb := bthen hA hb
      have q := BA.cell
      clear hg
      go_wp2_with fail
      refine (l2EachN_ct b.nodes.length _ tn false h1 _ (HT.out.below hb) (by omega)).mono ?_
      rintro e w3 ⟨rfl, rfl⟩
      clear q
      have q := BR.cell
      have f := BR.free
      go_wp2_with fail
      refine bodyPost_ret (v := .tuple #[.agg #[.int .i64 0, .slice none 0 0, .slice none 0 0, .int .i64 0, .slice none 0 0, .slice none 0 0], .bool false]) (by simp [results, Tryz.results34, go_sem, q]) rfl ⟨_, _, rfl, noBig_own _ _, by simp, ?_⟩
      iterate 6 refine Below.setCell ?_ (by simp) _
      exact hb
    | true =>
      cases h2 : perB es b.edges with
      | false =>
        obtain ⟨e1, e2⟩ := rn_no (sig := sig) (b := b) (tn := tn) (es := es) (by unfold renC; rw [hg, h1, h2]; rfl)
        rw [e1, e2]
        clear e1 e2
        go_enter Tryz.func34, Tryz.ntmps34
        go_wp2_with fail
        rw [← hW0]
        clear hW0
        refine (l2Good_ct _ _ sig b true _ (h.below hA) hg).mono ?_
        rintro e w2 ⟨rfl, hb⟩
        have BA := BA.below hb
        have BR := BR.below hb
        have hs1 := hb.size
        have hb := bthen hA hb
        have q := BA.cell
        clear hg
        go_wp2_with fail
        refine (l2EachN_ct b.nodes.length _ tn true h1 _ (HT.out.below hb) (by omega)).mono ?_
        rintro e w3 ⟨rfl, rfl⟩
        go_wp2_with fail
        refine (l2EachZ_ct b.edges _ es false h2 _ (HES.out.below hb) (by have := hD.edges; omega)).mono ?_
        rintro e w4 ⟨rfl, rfl⟩
        clear q
        have q := BR.cell
        have f := BR.free
        go_wp2_with fail
        refine bodyPost_ret (v := .tuple #[.agg #[.int .i64 0, .slice none 0 0, .slice none 0 0, .int .i64 0, .slice none 0 0, .slice none 0 0], .bool false]) (by simp [results, Tryz.results34, go_sem, q]) rfl ⟨_, _, rfl, noBig_own _ _, by simp, ?_⟩
        iterate 6 refine Below.setCell ?_ (by simp) _
        exact hb
      | true =>
        obtain ⟨e1, e2⟩ := rn_yes (sig := sig) (b := b) (tn := tn) (es := es) (by unfold renC; rw [hg, h1, h2]; rfl)
        rw [e1, e2]
        clear e1 e2
        have hp1 : eachB tn = true ∧ (tn.length : Int) = b.nodes.length := by unfold perB at h1; simpa using h1
        have hp2 : eachB es = true ∧ (es.length : Int) = b.edges := by unfold perB at h2; simpa using h2
        have HREN := Lib.hid (fun W (h : BigAt W (.agg #[.int .i64 b.roots, .slice a1 b.nodes.length c1, .slice a2 b.sites.length c2, .int .i64 b.edges, .slice a3 b.outer.length c3, .slice a4 b.inner.length c4]) b) (ht : IntsAt W vt tn) (he : IntsAt W ve es) => l2Renumber_ct _ vt ve b tn es W h ht he (by omega) (fun n hn => by have := hD.links n hn; omega) (by have := hD.sites; omega) (by have := hD.outer; omega) (by have := hD.inner; omega) (by omega) (fun x hx => by have := each_range hp1.1 x hx; omega) (fun n hn => by have := hD.par n hn; have := hD.roots; omega) (fun n hn x hx => ⟨by have := hD.lnk n hn x hx; have := hD.edges; have := hD.outer; omega, fun _ => by omega⟩) (fun p hp => by have := hD.site p hp; have := hD.roots; omega) (fun x hx => ⟨by have := hD.wire x hx; have := hD.edges; have := hD.outer; omega, fun _ => by omega⟩))
        have hbig := Lib.hid h.big
        have hsig := Lib.hid h.sig
        go_enter Tryz.func34, Tryz.ntmps34
        go_wp2_with fail
        rw [← hW0]
        clear hW0
        refine (l2Good_ct _ _ sig b true _ (h.below hA) hg).mono ?_
        rintro e w2 ⟨rfl, hb⟩
        have BA := BA.below hb
        have BR := BR.below hb
        have hs1 := hb.size
        have hb := bthen hA hb
        have q := BA.cell
        clear hg
        go_wp2_with fail
        refine (l2EachN_ct b.nodes.length _ tn true h1 _ (HT.out.below hb) (by omega)).mono ?_
        rintro e w3 ⟨rfl, rfl⟩
        go_wp2_with fail
        refine (l2EachZ_ct b.edges _ es true h2 _ (HES.out.below hb) (by have := hD.edges; omega)).mono ?_
        rintro e w4 ⟨rfl, rfl⟩
        clear q
        have hsz : w.heap.size + 2 ≤ w4.heap.size := by omega
        have q := BA.cell
        clear h1 h2 hp1 hp2 hD hG
        go_wp2_with fail
        refine (HREN.out _ (hbig.out.below hb) (HT.out.below hb) (HES.out.below hb)).mono ?_
        rintro e w8 ⟨u, bs, rfl, hB, hN, b8⟩
        have hb8 := bthen hb b8
        have BR8 := BR.below b8
        have hs8 := Nat.le_trans hsz b8.size
        have hB8 : BigOwn (w.heap.size + 2) w8 u (renB b tn es) bs := hB.mono hsz
        obtain ⟨d1, e1, d2, e2, d3, e3, d4, e4, rfl⟩ := hB8.at.shape
        clear q HREN hB
        go_wp2_with fail
        refine (l2Give_ct _ _ sig (renB b tn es) _ ⟨hsig.out.below hb8, hB8.at⟩ hB8 hN (by omega)).mono ?_
        rintro e w9 ⟨u, bs2, rfl, hB9, hN9, b9⟩
        obtain ⟨f1, g1', f2, g2', f3, g3', f4, g4', rfl⟩ := hB9.at.shape
        have BR9 := BR8.below b9
        have q2 := BR9.cell
        have ff := BR9.free
        have hb9 := bthen hb8 b9
        clear hB8
        go_wp2_with fail
        refine bodyPost_ret (v := .tuple #[.agg #[.int .i64 (validR sig (renB b tn es)).roots, .slice f1 (validR sig (renB b tn es)).nodes.length g1', .slice f2 (validR sig (renB b tn es)).sites.length g2', .int .i64 (validR sig (renB b tn es)).edges, .slice f3 (validR sig (renB b tn es)).outer.length g3', .slice f4 (validR sig (renB b tn es)).inner.length g4'], .bool (goodB sig (renB b tn es))]) (by simp [results, Tryz.results34, go_sem, q2]) rfl ⟨_, bs2, rfl, (fill6 hB9 (by omega) _ _ _ _ _ _).mono (by omega), hN9, fill6b hb9 (by omega) _ _ _ _ _ _⟩
end Go.Proofs.YthbdmcobpcoajaaGreatDoor
