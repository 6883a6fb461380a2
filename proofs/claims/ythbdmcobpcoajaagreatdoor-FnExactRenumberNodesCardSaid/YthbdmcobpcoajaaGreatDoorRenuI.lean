/- Other numbers of nodes and edges: the program's. -/
import Derived.Test.YthbdmcobpcoajaaGreatDoorRenuS
import Derived.Test.YthbdmcobpcoajaaGreatDoorOwnB
import Derived.Test.YthbdmcobpcoajaaGreatDoorRelink
import Derived.Test.YthbdmcobpcoajaaGreatDoorValid
namespace Go.Proofs.YthbdmcobpcoajaaGreatDoor
open Go Go.RowKit Go.BigFrame

/-- A node laid into a bigraph of one's own. -/
theorem BigOwn.lay {B g n c : Nat} {w : World} {r e vs vo vi : Value} {b : Big} {bs : List Nat} (h : BigOwn B w (.agg #[r, .slice (some ⟨g, 0, none⟩) n c, vs, e, vo, vi]) b bs) (hnd : bs.Nodup) {t : Nat} (ht : t < b.nodes.length) {x : Nd} {vl : Value} (hx : IntsOwn B w vl x.links) (hI : I64 x.ctl ∧ I64 x.par) (hdis : ∀ q ∈ blks vl, q ∉ bs) :
    w.there g (t * 3) 3 ∧ g ∈ bs ∧ ∃ bs', BigOwn B (w.setCells g (t * 3) [.int .i64 x.ctl, .int .i64 x.par, vl]) (.agg #[r, .slice (some ⟨g, 0, none⟩) n c, vs, e, vo, vi]) { b with nodes := b.nodes.set t x } bs' ∧ bs'.Nodup ∧ ∀ q ∈ bs', q ∈ bs ∨ q ∈ blks vl := by
  obtain ⟨bn, rfl, rfl, h1, h2, h3, h4, h5, h6, rfl⟩ := h.open
  obtain ⟨n1, n2, n3⟩ := List.nodup_append.1 hnd
  obtain ⟨k1, k2, bn', k3, k4, k5⟩ := h1.lay n1 ht hx hI (fun q hq hm => hdis q hq (List.mem_append_left _ hm))
  have hk : ∀ q, q ≠ g → (w.setCells g (t * 3) [.int .i64 x.ctl, .int .i64 x.par, vl]).heap[q]? = w.heap[q]? := fun q hq => other_setCells g _ _ w q hq
  have hne : ∀ q ∈ blks vs ++ (blks vo ++ blks vi), q ≠ g := fun q hq e => n3 g k2 q hq e.symm
  refine ⟨k1, List.mem_append_left _ k2, _, ⟨_, vs, vo, vi, bn', rfl, k3, h2.keep fun q hq => hk q (hne q (by simp [hq])), ⟨h3.1.keep fun q hq => hk q (hne q (by simp [hq])), h3.2⟩, ⟨h4.1.keep fun q hq => hk q (hne q (by simp [hq])), h4.2⟩, h5, h6, rfl⟩, ?_, ?_⟩
  · rw [List.nodup_append]
    refine ⟨k4, n2, fun p hp q hq e => ?_⟩
    rcases k5 p hp with h | h
    · exact n3 p h q hq e
    · exact hdis p h (List.mem_append_right _ (e ▸ hq))
  · intro q hq
    rcases List.mem_append.1 hq with h | h
    · rcases k5 q h with h | h
      · exact .inl (List.mem_append_left _ h)
      · exact .inr h
    · exact .inl (List.mem_append_right _ h)
/-- The blocks of two nodes' links, and that of the nodes, are different ones. -/
theorem flat_apart {a : List Nat} {lv : List (Nd × Value)} (h : (a ++ lv.flatMap fun n => blks n.2).Nodup) {k : Nat} {z : Nd × Value} (hz : lv[k]? = some z) : ∀ q ∈ blks z.2, q ∉ a ∧ ∀ i z', k < i → lv[i]? = some z' → q ∉ blks z'.2 := by
  obtain ⟨_, h2, h3⟩ := List.nodup_append.1 h
  intro q hq
  refine ⟨fun ha => h3 q ha q (List.mem_flatMap.2 ⟨z, List.mem_of_getElem? hz, hq⟩) rfl, fun i z' hi hz' hq' => ?_⟩
  have hp := (List.pairwise_flatMap.1 h2).2
  obtain ⟨h1, e1⟩ := List.getElem?_eq_some_iff.1 hz
  obtain ⟨h1', e1'⟩ := List.getElem?_eq_some_iff.1 hz'
  exact (List.pairwise_iff_getElem.1 hp) k i h1 h1' hi q (by rw [e1]; exact hq) q (by rw [e1']; exact hq') rfl
set_option maxRecDepth 100000 in
set_option maxHeartbeats 2000000 in
theorem place_ct {ta : Option Addr} {tc : Nat} {t6 : TypeId} (g6 : Nat) (tn : List Int) (p : Int) (W : World) (B6 : Box W g6 #[.slice ta tn.length tc] t6) (ht : IntsAt W (.slice ta tn.length tc) tn) (hp : -1073741824 ≤ p ∧ p < tn.length) :
    Calls Tryz.prog 107 #[.int .i64 p, .pointer (some ⟨g6, 0, none⟩)] W fun e w' => e = .returned (.int .i64 (moveP tn p)) ∧ Below W.heap.size W w' := by
  obtain ⟨_, _, e1, _, _, H⟩ := ht.open
  obtain ⟨rfl, rfl⟩ := (by simpa using e1 : ta = _ ∧ tc = _)
  have q6 := B6.cell
  have hlt := B6.lt
  clear e1
  by_cases hz : p < 0
  · have HN : Hid (moveP tn p = p) := by show _ = _; unfold moveP; rw [if_pos hz]
    rw [HN.out]
    clear H
    go_enter Tryz.func107, Tryz.ntmps107
    go_wp2_with fail
    refine bodyPost_ret (v := .int .i64 p) (by simp [results, Tryz.results107, go_sem]) rfl ⟨rfl, ?_⟩
    repeat (first | exact Below.refl _ _ | refine Below.alloc ?_ (by simp <;> omega) _ | refine Below.setCell ?_ (by simp <;> omega) _)
  · obtain ⟨k, rfl⟩ : ∃ k : Nat, p = k := ⟨p.toNat, by omega⟩
    have hkl : k < tn.length := by omega
    obtain ⟨y, hy⟩ := getElem?_of_lt hkl
    have HN : Hid (moveP tn k = y) := by show _ = _; unfold moveP; rw [if_neg hz, List.getD_eq_getElem?_getD, Int.toNat_natCast, hy]; rfl
    rw [HN.out]
    obtain ⟨_, ob, oo, rfl, hc⟩ := H k y hy
    clear H hy
    go_enter Tryz.func107, Tryz.ntmps107
    go_wp2_with fail
    refine bodyPost_ret (v := .int .i64 y) (by simp [results, Tryz.results107, go_sem]) rfl ⟨rfl, ?_⟩
    repeat (first | exact Below.refl _ _ | refine Below.alloc ?_ (by simp <;> omega) _ | refine Below.setCell ?_ (by simp <;> omega) _)
set_option maxRecDepth 100000 in
set_option maxHeartbeats 2000000 in
theorem tie_ct {a1 a2 a3 a4 ea : Option Addr} {c1 c2 c3 c4 ec : Nat} {t5 t7 : TypeId} (g5 g7 : Nat) (b : Big) (es : List Int) (l : Int) (W : World) (B5 : Box W g5 #[.int .i64 b.roots, .slice a1 b.nodes.length c1, .slice a2 b.sites.length c2, .int .i64 b.edges, .slice a3 b.outer.length c3, .slice a4 b.inner.length c4] t5) (B7 : Box W g7 #[.slice ea es.length ec] t7) (he : IntsAt W (.slice ea es.length ec) es) (hl : 0 ≤ l ∧ l < 1073741824) (hle : l < b.edges → l < (es.length : Int)) :
    Calls Tryz.prog 108 #[.int .i64 l, .pointer (some ⟨g5, 0, none⟩), .pointer (some ⟨g7, 0, none⟩)] W fun e w' => e = .returned (.int .i64 (tieP b.edges es l)) ∧ Below W.heap.size W w' := by
  obtain ⟨_, _, e1, _, _, H⟩ := he.open
  obtain ⟨rfl, rfl⟩ := (by simpa using e1 : ea = _ ∧ ec = _)
  have q5 := B5.cell
  have q7 := B7.cell
  have hlt := B5.lt
  clear e1
  by_cases hz : b.edges ≤ l
  · have HN : Hid (tieP b.edges es l = l) := by show _ = _; unfold tieP; rw [if_pos hz]
    rw [HN.out]
    clear H
    go_enter Tryz.func108, Tryz.ntmps108
    go_wp2_with fail
    refine bodyPost_ret (v := .int .i64 l) (by simp [results, Tryz.results108, go_sem]) rfl ⟨rfl, ?_⟩
    repeat (first | exact Below.refl _ _ | refine Below.alloc ?_ (by simp <;> omega) _ | refine Below.setCell ?_ (by simp <;> omega) _)
  · obtain ⟨k, rfl⟩ : ∃ k : Nat, l = k := ⟨l.toNat, by omega⟩
    have hkl : k < es.length := by omega
    obtain ⟨y, hy⟩ := getElem?_of_lt hkl
    have HN : Hid (tieP b.edges es k = y) := by show _ = _; unfold tieP; rw [if_neg hz, List.getD_eq_getElem?_getD, Int.toNat_natCast, hy]; rfl
    rw [HN.out]
    obtain ⟨_, ob, oo, rfl, hc⟩ := H k y hy
    clear H hy
    go_enter Tryz.func108, Tryz.ntmps108
    go_wp2_with fail
    refine bodyPost_ret (v := .int .i64 y) (by simp [results, Tryz.results108, go_sem]) rfl ⟨rfl, ?_⟩
    repeat (first | exact Below.refl _ _ | refine Below.alloc ?_ (by simp <;> omega) _ | refine Below.setCell ?_ (by simp <;> omega) _)

set_option maxRecDepth 100000 in
set_option maxHeartbeats 8000000 in
theorem implRenumberNodes_ct (vs v vt ve : Value) (sig : List Ctl) (b : Big) (tn es : List Int) (w : World) (h : Ctx w vs v sig b) (ht : IntsAt w vt tn) (he : IntsAt w ve es) (htl : tn.length ≤ 2000000) (hel : es.length ≤ 2000000) : Calls Tryz.prog 36 #[vs, v, vt, ve] w (GivesBig (rnP sig b tn es) (rnB sig b tn es) w) := by
  have HC := Lib.hid h
  have HT := Lib.hid ht
  have HES := Lib.hid he
  obtain ⟨a1, c1, a2, c2, a3, c3, a4, c4, rfl⟩ := h.big.shape
  obtain ⟨ta, tc, rfl, _⟩ := ht.open
  obtain ⟨ea, ec, rfl, _⟩ := he.open
  clear h ht he
  obtain ⟨W0, hW0⟩ : ∃ W, W = (((w.alloc (.cells #[.int .i64 b.roots, .slice a1 b.nodes.length c1, .slice a2 b.sites.length c2, .int .i64 b.edges, .slice a3 b.outer.length c3, .slice a4 b.inner.length c4] 34)).alloc (.cells #[.slice ta tn.length tc] 24)).alloc (.cells #[.slice ea es.length ec] 24)).alloc (.cells #[.int .i64 0, .slice none 0 0, .slice none 0 0, .int .i64 0, .slice none 0 0, .slice none 0 0] 34) := ⟨_, rfl⟩
  have hA : Below w.heap.size w W0 := by rw [hW0]; exact bthen (balloc w _) (bthen (balloc _ _) (bthen (balloc _ _) (balloc _ _)))
  have BA : Box W0 w.heap.size #[.int .i64 b.roots, .slice a1 b.nodes.length c1, .slice a2 b.sites.length c2, .int .i64 b.edges, .slice a3 b.outer.length c3, .slice a4 b.inner.length c4] 34 := by rw [hW0]; exact (((Box.new _ _ _).alloc _).alloc _).alloc _
  have BT : Box W0 (w.heap.size + 1) #[.slice ta tn.length tc] 24 := by rw [hW0]; exact ((Box.new' _ _ _ (by simp)).alloc _).alloc _
  have BE : Box W0 (w.heap.size + 2) #[.slice ea es.length ec] 24 := by rw [hW0]; exact (Box.new' _ _ _ (by simp)).alloc _
  have BR : Box W0 (w.heap.size + 3) #[.int .i64 0, .slice none 0 0, .slice none 0 0, .int .i64 0, .slice none 0 0, .slice none 0 0] 34 := by rw [hW0]; exact Box.new' _ _ _ (by simp)
  have hs0 : w.heap.size + 4 ≤ W0.heap.size := by rw [hW0]; simp
  cases hg : goodB sig b with
  | false =>
    obtain ⟨e1, e2⟩ := rn_no (sig := sig) (b := b) (tn := tn) (es := es) (by unfold renC; rw [hg]; rfl)
    rw [e1, e2]
    clear e1 e2
    go_enter Tryz.func36, Tryz.ntmps36
    go_wp2_with fail
    rw [← hW0]
    clear hW0
    refine (implIsBigraph_ct _ _ sig b false _ (HC.out.below hA) hg).mono ?_
    rintro e w2 ⟨rfl, hb⟩
    have BA := BA.below hb
    have BT := BT.below hb
    have BE := BE.below hb
    have BR := BR.below hb
    have hb := bthen hA hb
    have q := BR.cell
    have f := BR.free
    go_wp2_with fail
    refine bodyPost_ret (v := .tuple #[.agg #[.int .i64 0, .slice none 0 0, .slice none 0 0, .int .i64 0, .slice none 0 0, .slice none 0 0], .bool false]) (by simp [results, Tryz.results36, go_sem, q]) rfl ⟨_, _, rfl, noBig_own _ _, by simp, ?_⟩
    iterate 6 refine Below.setCell ?_ (by dsimp only; omega) _
    exact hb
  | true =>
    cases h1 : perB tn b.nodes.length with
    | false =>
      obtain ⟨e1, e2⟩ := rn_no (sig := sig) (b := b) (tn := tn) (es := es) (by unfold renC; rw [hg, h1]; rfl)
      rw [e1, e2]
      clear e1 e2
      go_enter Tryz.func36, Tryz.ntmps36
      go_wp2_with fail
      rw [← hW0]
      clear hW0
      refine (implIsBigraph_ct _ _ sig b true _ (HC.out.below hA) hg).mono ?_
      rintro e w2 ⟨rfl, hb⟩
      have BA := BA.below hb
      have BT := BT.below hb
      have BE := BE.below hb
      have BR := BR.below hb
      have hb := bthen hA hb
      have q := BA.cell
      have qt := BT.cell
      have qe := BE.cell
      go_wp2_with fail
      clear q qt qe
      refine (isOrderN_ct b.nodes.length _ tn false h1 _ (HT.out.below hb) htl).mono ?_
      rintro e w3 ⟨rfl, hb3⟩
      have BA := BA.below hb3
      have BT := BT.below hb3
      have BE := BE.below hb3
      have BR := BR.below hb3
      have hb := bthen hb hb3
      clear hb3
      have q := BR.cell
      have f := BR.free
      go_wp2_with fail
      refine bodyPost_ret (v := .tuple #[.agg #[.int .i64 0, .slice none 0 0, .slice none 0 0, .int .i64 0, .slice none 0 0, .slice none 0 0], .bool false]) (by simp [results, Tryz.results36, go_sem, q]) rfl ⟨_, _, rfl, noBig_own _ _, by simp, ?_⟩
      iterate 6 refine Below.setCell ?_ (by dsimp only; omega) _
      exact hb
    | true =>
      cases h2 : perB es b.edges with
      | false =>
        obtain ⟨e1, e2⟩ := rn_no (sig := sig) (b := b) (tn := tn) (es := es) (by unfold renC; rw [hg, h1, h2]; rfl)
        rw [e1, e2]
        clear e1 e2
        go_enter Tryz.func36, Tryz.ntmps36
        go_wp2_with fail
        rw [← hW0]
        clear hW0
        refine (implIsBigraph_ct _ _ sig b true _ (HC.out.below hA) hg).mono ?_
        rintro e w2 ⟨rfl, hb⟩
        have BA := BA.below hb
        have BT := BT.below hb
        have BE := BE.below hb
        have BR := BR.below hb
        have hb := bthen hA hb
        have q := BA.cell
        have qt := BT.cell
        have qe := BE.cell
        go_wp2_with fail
        clear q qt qe
        refine (isOrderN_ct b.nodes.length _ tn true h1 _ (HT.out.below hb) htl).mono ?_
        rintro e w3 ⟨rfl, hb3⟩
        have BA := BA.below hb3
        have BT := BT.below hb3
        have BE := BE.below hb3
        have BR := BR.below hb3
        have hb := bthen hb hb3
        clear hb3
        have q := BA.cell
        have qt := BT.cell
        have qe := BE.cell
        go_wp2_with fail
        clear q qt qe
        refine (isOrderN_ct b.edges _ es false h2 _ (HES.out.below hb) hel).mono ?_
        rintro e w4 ⟨rfl, hb3⟩
        have BA := BA.below hb3
        have BT := BT.below hb3
        have BE := BE.below hb3
        have BR := BR.below hb3
        have hb := bthen hb hb3
        clear hb3
        have q := BR.cell
        have f := BR.free
        go_wp2_with fail
        refine bodyPost_ret (v := .tuple #[.agg #[.int .i64 0, .slice none 0 0, .slice none 0 0, .int .i64 0, .slice none 0 0, .slice none 0 0], .bool false]) (by simp [results, Tryz.results36, go_sem, q]) rfl ⟨_, _, rfl, noBig_own _ _, by simp, ?_⟩
        iterate 6 refine Below.setCell ?_ (by dsimp only; omega) _
        exact hb
      | true =>
        obtain ⟨e1, e2⟩ := rn_yes (sig := sig) (b := b) (tn := tn) (es := es) (by unfold renC; rw [hg, h1, h2]; rfl)
        rw [e1, e2]
        clear e1 e2
        have hp1 : eachB tn = true ∧ (tn.length : Int) = b.nodes.length := by unfold perB at h1; simpa using h1
        have hp2 : eachB es = true ∧ (es.length : Int) = b.edges := by unfold perB at h2; simpa using h2
        have hD := (good_of hg).bds
        have HD := Lib.hid hD
        have HP1 := Lib.hid hp1
        have HP2 := Lib.hid hp2
        have HOB := Lib.hid (fun W (h : BigAt W (.agg #[.int .i64 b.roots, .slice a1 b.nodes.length c1, .slice a2 b.sites.length c2, .int .i64 b.edges, .slice a3 b.outer.length c3, .slice a4 b.inner.length c4]) b) => RgN.ownBigraph_ct _ b W h (by have := hD.nodes; omega) (fun n hn => by have := hD.links n hn; omega) (by have := hD.sites; omega) hD.outer (by have := hD.inner; omega))
        obtain ⟨_, _, _, _, _, _, _, _, e0, _, hh2, _, hh4, _, _⟩ := HC.out.big.parts
        simp only [Value.agg.injEq, Array.mk.injEq, List.cons.injEq, and_true, true_and, Value.slice.injEq] at e0
        obtain ⟨⟨rfl, rfl⟩, ⟨rfl, rfl⟩, ⟨rfl, rfl⟩, rfl, rfl⟩ := e0
        have HSI := Lib.hid hh2
        have HWI := Lib.hid hh4
        clear hh2 hh4
        have hnl := hD.nodes
        have hsl := hD.sites
        have hil := hD.inner
        clear hD hp1 hp2
        go_enter Tryz.func36, Tryz.ntmps36
        go_wp2_with fail
        rw [← hW0]
        clear hW0
        refine (implIsBigraph_ct _ _ sig b true _ (HC.out.below hA) hg).mono ?_
        rintro e w2 ⟨rfl, hb⟩
        have BA := BA.below hb
        have BT := BT.below hb
        have BE := BE.below hb
        have BR := BR.below hb
        have hb := bthen hA hb
        have q := BA.cell
        have qt := BT.cell
        have qe := BE.cell
        go_wp2_with fail
        clear q qt qe
        refine (isOrderN_ct b.nodes.length _ tn true h1 _ (HT.out.below hb) htl).mono ?_
        rintro e w3 ⟨rfl, hb3⟩
        have BA := BA.below hb3
        have BT := BT.below hb3
        have BE := BE.below hb3
        have BR := BR.below hb3
        have hb := bthen hb hb3
        clear hb3
        have q := BA.cell
        have qt := BT.cell
        have qe := BE.cell
        go_wp2_with fail
        clear q qt qe
        refine (isOrderN_ct b.edges _ es true h2 _ (HES.out.below hb) hel).mono ?_
        rintro e w4 ⟨rfl, hb3⟩
        have BA := BA.below hb3
        have BT := BT.below hb3
        have BE := BE.below hb3
        have BR := BR.below hb3
        have hb := bthen hb hb3
        clear hb3
        have q := BA.cell
        have hltA := BA.lt
        have hltR := BR.lt
        go_wp2_with fail
        refine (HOB.out _ (HC.out.big.below hb)).mono ?_
        rintro e w5 ⟨v', bs0, rfl, hB, hN0, hb5⟩
        obtain ⟨d1, e1, d2, e2, d3, e3, d4, e4, rfl⟩ := hB.at.shape
        clear q hltA
        have BA := BA.below hb5
        have BT := BT.below hb5
        have BE := BE.below hb5
        have BR := BR.below hb5
        obtain ⟨n0, hn0, hn1⟩ : ∃ n, n ≤ w4.heap.size ∧ w4.heap.size ≤ n := ⟨_, Nat.le_refl _, Nat.le_refl _⟩
        have hB := hB.mono hn0
        have hs5 : n0 ≤ w5.heap.size := Nat.le_trans hn0 hb5.size
        have hb := bthen hb hb5
        clear hb5
        have q := BA.cell
        have hltA := BA.lt
        go_wp2_with fail
        clear q hltA
        obtain ⟨W6, hW6⟩ : ∃ W, W = w5.alloc (.cells #[.int .i64 b.roots, .slice d1 b.nodes.length e1, .slice d2 b.sites.length e2, .int .i64 b.edges, .slice d3 b.outer.length e3, .slice d4 b.inner.length e4] 34) := ⟨_, rfl⟩
        first | rw [← hW6] | fail "world6"
        have b6 : Below w5.heap.size w5 W6 := by rw [hW6]; exact balloc _ _
        obtain ⟨gp, hgp⟩ : ∃ g, g = w5.heap.size := ⟨_, rfl⟩
        have BP : Box W6 gp #[.int .i64 b.roots, .slice d1 b.nodes.length e1, .slice d2 b.sites.length e2, .int .i64 b.edges, .slice d3 b.outer.length e3, .slice d4 b.inner.length e4] 34 := by rw [hW6]; exact Box.new' _ _ _ hgp
        have hlt := hB.lt
        have hB := hB.keep (keep_below b6 (fun p hp => (hlt p hp).2))
        have hlg : Hid (∀ q ∈ bs0, n0 ≤ q ∧ q < gp) := fun q hq => by rw [hgp]; exact hlt q hq
        have BA := BA.below b6
        have BT := BT.below b6
        have BE := BE.below b6
        have BR := BR.below b6
        have hb := bthen hb b6
        have hng : n0 ≤ gp := by omega
        rw [← hgp]
        clear b6 hW6 hlt hs5 hgp
        refine (HOB.out _ (HC.out.big.below hb)).mono ?_
        rintro e w7 ⟨v', bs9, rfl, hB2, hN2, hb7⟩
        obtain ⟨x1, y1, x2, y2, x3, y3, x4, y4, rfl⟩ := hB2.at.shape
        have hfd : ∀ w : World, (Instr.field 34 (.agg #[.int .i64 b.roots, .slice x1 b.nodes.length y1, .slice x2 b.sites.length y2, .int .i64 b.edges, .slice x3 b.outer.length y3, .slice x4 b.inner.length y4]) 1).run Tryz.prog w = .ok (.slice x1 b.nodes.length y1) w := fun _ => by kernel_rfl
        obtain ⟨bn2, _, _, hC, _, _, _, _, _, rfl⟩ := hB2.open
        obtain ⟨lv, hl1, hl2, hl3, hl4, hl5, rfl⟩ := hC
        have hN2 := (List.nodup_append.1 hN2).1
        have hlt := hB.lt
        have hB := hB.keep (keep_below hb7 (fun p hp => (hlt p hp).2))
        have hlg2 : Hid (∀ q ∈ bs0, q < W6.heap.size) := fun q hq => (hlt q hq).2
        have hgl := BP.lt
        obtain ⟨n1, hn2, hn3⟩ : ∃ n, n ≤ W6.heap.size ∧ W6.heap.size ≤ n := ⟨_, Nat.le_refl _, Nat.le_refl _⟩
        have hl2 := hl2.mono hn2
        have BA := BA.below hb7
        have BT := BT.below hb7
        have BE := BE.below hb7
        have BR := BR.below hb7
        have BP := BP.below hb7
        have hs7 := hb7.size
        have hb := bthen hb hb7
        clear hb7 hB2 hlt HOB
        have q := BA.cell
        go_wp2_with fail
        clear q
        have hs7' : n1 ≤ w7.heap.size := by omega
        have HL1 := Lib.hid hl1
        have hlv : lv.length = b.nodes.length := by rw [← hl1]; simp
        have hl4' : ∀ i z, 0 ≤ i → lv[i]? = some z → IntsOwn n1 w7 z.2 z.1.links := fun i z _ h => (hl4 z (List.mem_of_getElem? h)).mono hn2
        have HI5 := Lib.hid hl5
        have HND := Lib.hid hN2
        have hB0 : ∃ bs, BigOwn n0 w7 (.agg #[.int .i64 b.roots, .slice d1 b.nodes.length e1, .slice d2 b.sites.length e2, .int .i64 b.edges, .slice d3 b.outer.length e3, .slice d4 b.inner.length e4]) { b with nodes := layN tn (renNs b tn es) b.nodes 0 } bs ∧ bs.Nodup ∧ Hid (∀ q ∈ bs, n0 ≤ q ∧ q < w7.heap.size ∧ q ≠ gp ∧ q ∉ blks (.slice x1 b.nodes.length y1) ∧ ∀ i z, 0 ≤ i → lv[i]? = some z → q ∉ blks z.2) := ⟨bs0, hB, hN0, fun q hq => by
          have h1 := hlg.out q hq
          have h2 := hlg2.out q hq
          refine ⟨h1.1, by omega, by omega, fun h => by have := hl2.lt q h; omega, fun i z _ hz h => by have := (hl4' i z (Nat.zero_le _) hz).lt q h; omega⟩⟩
        clear hB hN0 hl4 hl5 hN2 hlg hlg2 hl1
        go_loopw [49, 13, 14] (fun i _ _ W => ∃ k : Nat, k ≤ b.nodes.length ∧ i = .int .i64 k ∧ Below w.heap.size w W ∧ n1 ≤ W.heap.size ∧ (Box W w.heap.size #[.int .i64 b.roots, .slice a1 b.nodes.length c1, .slice a2 b.sites.length c2, .int .i64 b.edges, .slice a3 b.outer.length c3, .slice a4 b.inner.length c4] 34 ∧ Box W (w.heap.size + 1) #[.slice ta tn.length tc] 24 ∧ Box W (w.heap.size + 2) #[.slice ea es.length ec] 24 ∧ Box W (w.heap.size + 3) #[.int .i64 0, .slice none 0 0, .slice none 0 0, .int .i64 0, .slice none 0 0, .slice none 0 0] 34 ∧ Box W gp #[.int .i64 b.roots, .slice d1 b.nodes.length e1, .slice d2 b.sites.length e2, .int .i64 b.edges, .slice d3 b.outer.length e3, .slice d4 b.inner.length e4] 34) ∧ RowOwn n1 W (.slice x1 b.nodes.length y1) 3 (lv.map Nd.cells) ∧ (∀ i z, k ≤ i → lv[i]? = some z → IntsOwn n1 W z.2 z.1.links) ∧ ∃ bs, BigOwn n0 W (.agg #[.int .i64 b.roots, .slice d1 b.nodes.length e1, .slice d2 b.sites.length e2, .int .i64 b.edges, .slice d3 b.outer.length e3, .slice d4 b.inner.length e4]) { b with nodes := layN tn (renNs b tn es) b.nodes k } bs ∧ bs.Nodup ∧ Hid (∀ q ∈ bs, n0 ≤ q ∧ q < W.heap.size ∧ q ≠ gp ∧ q ∉ blks (.slice x1 b.nodes.length y1) ∧ ∀ i z, k ≤ i → lv[i]? = some z → q ∉ blks z.2)) (fun i _ _ _ => b.nodes.length - (intOf i).toNat)
        case atStart => exact ⟨0, Nat.zero_le _, rfl, hb, hs7', ⟨BA, BT, BE, BR, BP⟩, hl2, hl4', hB0⟩
        case round =>
          clear hB0 BA BT BE BR BP hl2 hl4' hb hs7 hs7'
          obtain ⟨k, hk, rfl, hb, hs, ⟨BA, BT, BE, BR, BP⟩, hl2, hl4, bs, hB, hN, hq⟩ := hrel
          by_cases hkl : k < b.nodes.length
          · obtain ⟨z, hz⟩ := getElem?_of_lt (show k < lv.length by omega)
            obtain ⟨x, vl⟩ := z
            have hx : b.nodes[k]? = some x := by rw [← HL1.out, List.getElem?_map, hz]; rfl
            have hvo : IntsOwn n1 wr vl x.links := hl4 k _ (Nat.le_refl _) hz
            obtain ⟨ya, yc, rfl⟩ := hvo.shape
            obtain ⟨g2, rfl, hg2⟩ := hl2.head (by omega)
            have hi2 : (lv.map Nd.cells)[k]? = some (Nd.cells (x, .slice ya x.links.length yc)) := by rw [List.getElem?_map, hz]; rfl
            have hc0 : wr.cell? ⟨g2, k * 3, none⟩ = some (.int .i64 x.ctl) := hl2.cellAt hi2 (j := 0) rfl
            have hc1 : wr.cell? ⟨g2, k * 3 + 1, none⟩ = some (.int .i64 x.par) := hl2.cellAt hi2 (j := 1) rfl
            have hc2 : wr.cell? ⟨g2, k * 3 + 2, none⟩ = some (.slice ya x.links.length yc) := hl2.cellAt hi2 (j := 2) rfl
            have HZ := Lib.hid hz
            have HX := Lib.hid hx
            have hxl := HD.out.links x (List.mem_of_getElem? hx)
            have HPX : Hid (-1073741824 ≤ x.par ∧ x.par < (tn.length : Int)) := by have h1 := HD.out.par x (List.mem_of_getElem? hx); have h2 := HD.out.roots; have h3 := HP1.out.2; exact ⟨by omega, by omega⟩
            clear hz hx hi2
            go_wp2_with fail
            obtain ⟨gx, hgx⟩ : ∃ g, g = wr.heap.size := ⟨_, rfl⟩
            obtain ⟨W8, hW8⟩ : ∃ W, W = wr.alloc (.cells #[.int .i64 x.ctl, .int .i64 x.par, .slice ya x.links.length yc] 100) := ⟨_, rfl⟩
            first | rw [← hW8] | fail "world8"
            have bx : Below wr.heap.size wr W8 := by rw [hW8]; exact balloc _ _
            have BX : Box W8 gx #[.int .i64 x.ctl, .int .i64 x.par, .slice ya x.links.length yc] 100 := by rw [hW8, hgx]; exact Box.new _ _ _
            refine (place_ct (w.heap.size + 1) tn x.par W8 (BT.below bx) (HT.out.below (bthen hb bx)) HPX.out).mono ?_
            rintro e w9 ⟨rfl, b9⟩
            have BX := BX.below b9
            have b9 := bthen bx b9
            clear hW8 bx
            subst hgx
            have q := BX.cell
            have f := BX.free
            go_wp2_with fail
            clear q f
            obtain ⟨W10, hW10⟩ : ∃ W, W = w9.setCell ⟨wr.heap.size, 1, none⟩ (.int .i64 (moveP tn x.par)) := ⟨_, rfl⟩
            first | rw [← hW10] | fail "world10"
            have b10 : Below wr.heap.size wr W10 := by rw [hW10]; exact Below.setCell b9 (Nat.le_refl _) _
            have BX : Box W10 wr.heap.size #[.int .i64 x.ctl, .int .i64 (moveP tn x.par), .slice ya x.links.length yc] 100 := by rw [hW10]; exact BX.set 1 _
            clear hW10 b9
            obtain ⟨wa, rfl⟩ : ∃ W, W = wr := ⟨_, rfl⟩
            have hvl0 := hvo.lt
            have hv10 := hvo.keep (keep_below b10 (fun p hp => (hvl0 p hp).2))
            have HVL := Lib.hid hvl0
            have HGB : Hid (w.heap.size + 3 < n1 ∧ gp < n1) := ⟨by omega, by omega⟩
            have BA1 := BA.below b10
            have BT1 := BT.below b10
            have BE1 := BE.below b10
            have BR1 := BR.below b10
            have BP1 := BP.below b10
            have hb1 := bthen hb b10
            have hgl1 := BX.lt
            have HXM : Hid (x ∈ b.nodes) := List.mem_of_getElem? HX.out
            have hv0 : IntsOwn n1 W10 (.slice ya x.links.length yc) (progI (fun _ => (tieP b.edges es)) x.links 0) := by rw [progI_zero]; exact hv10
            clear hv10 hvo hvl0 hc0 hc1 hc2
            go_loopw [62, 15, 16] (fun i _ _ W => ∃ j : Nat, j ≤ x.links.length ∧ i = .int .i64 j ∧ Only (blks (.slice ya x.links.length yc)) W10 W ∧ IntsOwn n1 W (.slice ya x.links.length yc) (progI (fun _ => (tieP b.edges es)) x.links j)) (fun i _ _ _ => x.links.length - (intOf i).toNat)
            case atStart => exact ⟨0, Nat.zero_le _, rfl, Only.refl _ _, hv0⟩
            case round =>
              clear hv0
              obtain ⟨j, hj, rfl, oI, hv⟩ := hrel
              have BAw := BA1.keep (oI.block _ BA1.lt (fun h => by have := (HVL.out _ h).1; have := HGB.out; omega))
              have BTw := BT1.keep (oI.block _ BT1.lt (fun h => by have := (HVL.out _ h).1; have := HGB.out; omega))
              have BEw := BE1.keep (oI.block _ BE1.lt (fun h => by have := (HVL.out _ h).1; have := HGB.out; omega))
              have BRw := BR1.keep (oI.block _ BR1.lt (fun h => by have := (HVL.out _ h).1; have := HGB.out; omega))
              have BPw := BP1.keep (oI.block _ BP1.lt (fun h => by have := (HVL.out _ h).1; have := HGB.out; omega))
              have BXw := BX.keep (oI.block _ BX.lt (fun h => by have := (HVL.out _ h).2; omega))
              have hbw : Below w.heap.size w wr := hb1.trans (oI.below (B := w.heap.size) (fun p hp => by have := (HVL.out p hp).1; have := HGB.out; omega) (by have := hb1.size; omega))
              have hbk : Hid (∀ p, p < wa.heap.size → p ∉ blks (.slice ya x.links.length yc) → wr.heap[p]? = wa.heap[p]?) := fun p hp hn => (oI.block p (by have := b10.size; omega) hn).trans (b10.block p hp)
              have hsz : wa.heap.size < wr.heap.size := by have := oI.size; omega
              by_cases hjl : j < x.links.length
              · obtain ⟨yl, hy⟩ := getElem?_of_lt hjl
                obtain ⟨gl, rfl, hgm, hcy, hfz, _⟩ := hv.slot (progI_get (f := fun _ => (tieP b.edges es)) hy)
                have HY := Lib.hid hy
                have hyb := HD.out.lnk x HXM.out yl (List.mem_of_getElem? hy)
                have HYL : Hid ((0 ≤ yl ∧ yl < 1073741824) ∧ (yl < b.edges → yl < (es.length : Int))) := by have h1 := HD.out.edges; have h2 := HD.out.outer; have h3 := HP2.out.2; exact ⟨⟨by omega, by omega⟩, fun h => by omega⟩
                have q := BXw.cell
                clear hy hyb hfz hbk
                go_wp2_with fail
                clear q
                have gX2 := fun y => gr_cell (w := wr) (BXw.cell 2) y
                refine rg_region [0, 1, 2, 3, 4, 5, 6] [7] (lo := (.cons _ .nil)) (by rfl) (tAt 5 (eVal (.int .i64 (tieP b.edges es yl))) tNil) (by kernel_rfl) (by rfl) (by kernel_rfl) ?_
                refine rg_quiet anti_end [0, 1, 2, 3, 4] [5, 6] (lo := (.cons _ (.cons _ (.cons _ (.cons _ (.cons _ .nil)))))) (by rfl) (by kernel_rfl) ?_
                repeat (go_big_quiet_step (fail))
                refine wpQuiet_nil ?_
                refine rg_call 5 rfl rfl 108 #[.int .i64 yl, .pointer (some ⟨w.heap.size, 0, none⟩), .pointer (some ⟨w.heap.size + 2, 0, none⟩)] ?_ ?_ ?_
                · intro w; first | (simp [go_sem]; done) | (simp [go_sem]; rfl) | rfl
                · rintro w' ⟨y, rfl⟩ hd
                  refine (tie_ct w.heap.size (w.heap.size + 2) b es yl _ (BAw.below (gr_below _ _)) (BEw.below (gr_below _ _)) (HES.out.below (bthen hbw (gr_below _ _))) HYL.out.1 HYL.out.2).mono ?_
                  rintro e w3 ⟨rfl, bb⟩
                  exact ⟨_, rfl, bb, rfl⟩
                intro v hv
                obtain rfl : v = .int .i64 (tieP b.edges es yl) := hv
                simp only [Act.put, List.setIfInBounds_toArray, List.set_cons_zero, List.set_cons_succ]
                refine rg_quiet anti_end [6] [] (lo := (.cons _ .nil)) (by rfl) (by kernel_rfl) ?_
                repeat (go_big_quiet_step (fail))
                refine wpQuiet_nil ?_
                intro w4 U hb4 hF
                have hlt := hv.lt
                have hv4 := hv.keep (keep_below hb4 (fun p hp => (hlt p hp).2))
                obtain ⟨gl', e', hgm', hcy4, hfr4, hst⟩ := hv4.slot (progI_get (f := fun _ => (tieP b.edges es)) HY.out)
                obtain rfl : gl = gl' := by simpa using e'
                have hst := hst (tieP b.edges es yl) (i64_tie HES.out.2 HYL.out.1)
                have HST := Lib.hid hst
                have oI4 := oI.more hb4
                clear hst hv hv4 hF gX2 hcy oI hlt e' hgm
                go_wp2_with fail
                go_roundw
                case rel => exact ⟨j + 1, by omega, by go_num, oI4.setCell hgm' _, by rw [progI_set HY.out]; exact HST.out⟩
                case measure => simp [intOf]; omega
              · have e : j = x.links.length := by omega
                subst e
                rw [progI_all] at hv
                have HV := Lib.hid hv
                have q := BXw.cell
                have qq := BPw.cell
                obtain ⟨_, _, _, hC, _⟩ := hB.open
                obtain ⟨gn, rfl⟩ := hC.head (by omega)
                obtain ⟨ti, hti⟩ := getElem?_of_lt (show k < tn.length by have := HP1.out.2; omega)
                have htr := each_range HP1.out.1 ti (List.mem_of_getElem? hti)
                obtain ⟨t, rfl⟩ : ∃ t : Nat, ti = t := ⟨ti.toNat, by omega⟩
                obtain ⟨_, _, et, _, _, Ht⟩ := (HT.out.below hbw).open
                obtain ⟨rfl, rfl⟩ := (by simpa using et : ta = _ ∧ tc = _)
                obtain ⟨_, tb, to', rfl, hct⟩ := Ht k _ hti
                have HTK := Lib.hid hti
                have htn : t < b.nodes.length := by have := HP1.out.2; omega
                have hkt : k < tn.length := by have := HP1.out.2; omega
                clear hC et Ht hti htr hv
                go_wp2_with fail
                clear q qq
                have gX0 := fun y => gr_cell (w := wr) (BXw.cell 0) y
                have gX1 := fun y => gr_cell (w := wr) (BXw.cell 1) y
                have gX2 := fun y => gr_cell (w := wr) (BXw.cell 2) y
                have gP1 := fun y => gr_cell (w := wr) (BPw.cell 1) y
                have gT0 := fun y => gr_cell (w := wr) (BTw.cell 0) y
                have gtt := fun y => gr_cell (w := wr) hct y
                refine rg_region [0, 1, 2, 3, 4, 5, 6, 7] [8] (lo := (.cons _ .nil)) (by rfl) tNil (by kernel_rfl) (by rfl) (by kernel_rfl) ?_
                refine rg_quiet anti_end [0, 1, 2, 3, 4, 5, 6, 7] [] (lo := (.cons _ (.cons _ (.cons _ (.cons _ (.cons _ (.cons _ (.cons _ (.cons _ .nil))))))))) (by rfl) (by kernel_rfl) ?_
                repeat (go_big_quiet_step (fail))
                refine wpQuiet_nil ?_
                intro w4 U hb4 hF
                clear hF gX0 gX1 gX2 gP1 gT0 gtt hct
                have hlt := hB.lt
                have hvl := HV.out.lt
                have hv4 := HV.out.keep (keep_below hb4 (fun p hp => (hvl p hp).2))
                have h04 : ∀ p, p < wa.heap.size → p ∉ blks (.slice ya x.links.length yc) → w4.heap[p]? = wa.heap[p]? := fun p hp hn => (hb4.block p (by omega)).trans (hbk.out p hp hn)
                have hdj := flat_apart HND.out HZ.out
                have hB4 := hB.keep (fun p hp => h04 p (hlt p hp).2 (fun h => (hq.out p hp).2.2.2.2 k _ (Nat.le_refl _) HZ.out h))
                have hl24 := hl2.keep (fun p hp => h04 p (hl2.lt p hp).2 (fun h => (hdj p h).1 hp))
                have HL4 : Hid (∀ i z, k + 1 ≤ i → lv[i]? = some z → IntsOwn n1 w4 z.2 z.1.links) := fun i z hi hz => by
                  have h1 := hl4 i z (by omega) hz
                  exact h1.keep (fun p hp => h04 p (h1.lt p hp).2 (fun h => (hdj p h).2 i z (by omega) hz hp))
                have BA4 := BAw.below hb4
                have BT4 := BTw.below hb4
                have BE4 := BEw.below hb4
                have BR4 := BRw.below hb4
                have BP4 := BPw.below hb4
                have hb4' := bthen hbw hb4
                have hs4 := hb4.size
                have HXI2 : Hid (I64 x.ctl ∧ I64 (moveP tn x.par)) := ⟨(HI5.out x HXM.out).1, i64_move HT.out.2 ⟨HPX.out.1, by have := HPX.out.2; omega⟩⟩
                obtain ⟨hth, hgb, bs2, hB5, hN5, hq5⟩ := hB4.lay hN (t := t) (by show t < (layN _ _ _ _).length; rw [layN_len]; exact htn) (x := renNd b.edges tn es x) (vl := (.slice ya x.links.length yc)) (hv4.mono (by omega)) HXI2.out (fun p hp h => by have := HVL.out p hp; exact (hq.out p h).2.2.2.2 k _ (Nat.le_refl _) HZ.out hp)
                have HB5 : Hid (BigOwn n0 (w4.setCells gn (t * 3) [.int .i64 x.ctl, .int .i64 (moveP tn x.par), (.slice ya x.links.length yc)]) (.agg #[.int .i64 b.roots, .slice (some ⟨gn, 0, none⟩) b.nodes.length e1, .slice d2 b.sites.length e2, .int .i64 b.edges, .slice d3 b.outer.length e3, .slice d4 b.inner.length e4]) { b with nodes := layN tn (renNs b tn es) b.nodes (k + 1) } bs2) := by show BigOwn _ _ _ _ _; rw [layN_succ HTK.out (renNs_get HX.out)]; exact hB5
                have HSZ : Hid ((Tryz.prog.info? 100).map (·.size) = some 3) := by
                  obtain ⟨i0, hi, hz0, hz1, hz2⟩ := info_parts inf_nd
                  show _ = _; rw [hi]; simp [hz1]
                have o5 := only_setCells w4 gn (t * 3) [.int .i64 x.ctl, .int .i64 (moveP tn x.par), (.slice ya x.links.length yc)]
                have hgn := hlt gn hgb
                have hgq := hq.out gn hgb
                have HQ : Hid (∀ p ∈ bs2, n0 ≤ p ∧ p < w4.heap.size ∧ p ≠ gp ∧ p ∉ blks (.slice (some ⟨g2, 0, none⟩) b.nodes.length y1) ∧ ∀ i z, k + 1 ≤ i → lv[i]? = some z → p ∉ blks z.2) := fun p hp => by
                  rcases hq5 p hp with h | h
                  · have h1 := hq.out p h
                    exact ⟨h1.1, by omega, h1.2.2.1, h1.2.2.2.1, fun i z hi hz => h1.2.2.2.2 i z (by omega) hz⟩
                  · have h1 := HVL.out p h
                    have h2 := hdj p h
                    exact ⟨by omega, by omega, by omega, h2.1, fun i z hi hz => h2.2 i z (by omega) hz⟩
                clear hB hB4 hB5 hv4 h04 hdj hq5 hbk hlt hvl oI BAw BTw BEw BRw BPw BXw BA1 BT1 BE1 BR1 BP1 hl2 hl4
                go_wp2_with (refine wpList_store_mid (ty := 100) rfl (.tmp 82) (.tmp 81) rfl gn (t * 3) #[.int .i64 x.ctl, .int .i64 (moveP tn x.par), (.slice ya x.links.length yc)] rfl rfl hth HSZ.out (oc_nd _ _ _ _ _) ?_)
                go_roundw
                case rel =>
                  have hs5 := o5.size
                  exact ⟨k + 1, by omega, by go_num, hb4'.trans (o5.below (fun p hp => by have := List.mem_singleton.1 hp; omega) (by omega)), by omega,
                    ⟨BA4.keep (o5.block _ BA4.lt (fun h => by have := List.mem_singleton.1 h; have := HGB.out; omega)), BT4.keep (o5.block _ BT4.lt (fun h => by have := List.mem_singleton.1 h; have := HGB.out; omega)), BE4.keep (o5.block _ BE4.lt (fun h => by have := List.mem_singleton.1 h; have := HGB.out; omega)), BR4.keep (o5.block _ BR4.lt (fun h => by have := List.mem_singleton.1 h; have := HGB.out; omega)), BP4.keep (o5.block _ BP4.lt (fun h => hgq.2.2.1 (List.mem_singleton.1 h).symm))⟩,
                    hl24.keep (fun p hp => o5.block p (hl24.lt p hp).2 (fun h => hgq.2.2.2.1 ((List.mem_singleton.1 h) ▸ hp))),
                    fun i z hi hz => (HL4.out i z hi hz).keep (fun p hp => o5.block p ((HL4.out i z hi hz).lt p hp).2 (fun h => hgq.2.2.2.2 i z (by omega) hz ((List.mem_singleton.1 h) ▸ hp))),
                    bs2, HB5.out, hN5, fun p hp => by have h := HQ.out p hp; exact ⟨h.1, by omega, h.2.2⟩⟩
                case measure => simp [intOf]; omega
          · have e : k = b.nodes.length := by omega
            subst e
            have hsurj : layN tn (renNs b tn es) b.nodes b.nodes.length = layN tn (renNs b tn es) (List.replicate b.nodes.length noNd) b.nodes.length := layN_all (by simp) (fun j hj => by
              have h1 := HP1.out.1
              unfold eachB at h1
              rw [List.all_eq_true] at h1
              have h2 := h1 j (List.mem_range.2 (by have := HP1.out.2; omega))
              rw [List.contains_iff_mem] at h2
              obtain ⟨i, hi⟩ := List.mem_iff_getElem?.1 h2
              refine ⟨i, by have := (List.getElem?_eq_some_iff.1 hi).1; have := HP1.out.2; omega, ?_⟩
              rw [List.getD_eq_getElem?_getD, hi]; simp)
            rw [hsurj] at hB
            obtain ⟨NS, hNS⟩ : ∃ l, l = layN tn (renNs b tn es) (List.replicate b.nodes.length noNd) b.nodes.length := ⟨_, rfl⟩
            rw [← hNS] at hB
            have HNS := Lib.hid hNS
            have HG0 : Hid (w.heap.size + 3 < n0) := by show _ < _; omega
            have hbs : Hid (∀ q ∈ bs, n0 ≤ q ∧ q ≠ gp) := fun q hq' => ⟨(hq.out q hq').1, (hq.out q hq').2.2.1⟩
            have q := BA.cell
            have qq := BP.cell
            clear hsurj hNS hq hl2 hl4
            go_wp2_with fail
            clear q qq
            obtain ⟨wa, rfl⟩ : ∃ W, W = wr := ⟨_, rfl⟩
            have hB0 : BigOwn n0 wa (.agg #[.int .i64 b.roots, .slice d1 b.nodes.length e1, .slice d2 b.sites.length e2, .int .i64 b.edges, .slice d3 b.outer.length e3, .slice d4 b.inner.length e4]) ⟨b.roots, NS, (progI (fun _ => moveP tn) b.sites 0), b.edges, b.outer, b.inner⟩ bs := by rw [progI_zero]; exact hB
            clear hB
            go_loopw [87, 17, 18] (fun i _ _ W => ∃ j : Nat, j ≤ b.sites.length ∧ i = .int .i64 j ∧ Only bs wa W ∧ BigOwn n0 W (.agg #[.int .i64 b.roots, .slice d1 b.nodes.length e1, .slice d2 b.sites.length e2, .int .i64 b.edges, .slice d3 b.outer.length e3, .slice d4 b.inner.length e4]) ⟨b.roots, NS, (progI (fun _ => moveP tn) b.sites j), b.edges, b.outer, b.inner⟩ bs) (fun i _ _ _ => b.sites.length - (intOf i).toNat)
            case atStart => exact ⟨0, Nat.zero_le _, rfl, Only.refl _ _, hB0⟩
            case round =>
              clear hB0
              obtain ⟨j, hj, rfl, oW, hB⟩ := hrel
              have BAw := BA.keep (oW.block _ BA.lt (fun h => by have := (hbs.out _ h).1; have := HG0.out; omega))
              have BTw := BT.keep (oW.block _ BT.lt (fun h => by have := (hbs.out _ h).1; have := HG0.out; omega))
              have BEw := BE.keep (oW.block _ BE.lt (fun h => by have := (hbs.out _ h).1; have := HG0.out; omega))
              have BRw := BR.keep (oW.block _ BR.lt (fun h => by have := (hbs.out _ h).1; have := HG0.out; omega))
              have BPw := BP.keep (oW.block _ BP.lt (fun h => (hbs.out _ h).2 rfl))
              have hbw : Below w.heap.size w wr := hb.trans (oW.below (B := w.heap.size) (fun p hp => by have := (hbs.out p hp).1; have := HG0.out; omega) (by have := hb.size; omega))
              by_cases hjl : j < b.sites.length
              · obtain ⟨yl, hy⟩ := getElem?_of_lt hjl
                obtain ⟨_, _, es0, _, _, Hs⟩ := (HSI.out.below hbw).open
                obtain ⟨rfl, rfl⟩ := (by simpa using es0 : a2 = _ ∧ c2 = _)
                obtain ⟨_, sb, so, rfl, hcs⟩ := Hs j yl hy
                obtain ⟨gl, rfl, hgm, hcy, hfz, _⟩ := hB.site hN (progI_get (f := fun _ => moveP tn) hy)
                have HY := Lib.hid hy
                have hyb := HD.out.site yl (List.mem_of_getElem? hy)
                have HPY : Hid (-1073741824 ≤ yl ∧ yl < (tn.length : Int)) := by have h2 := HD.out.roots; have h3 := HP1.out.2; exact ⟨by omega, by omega⟩
                have q := BPw.cell
                clear hy hyb hfz Hs es0
                go_wp2_with fail
                clear q
                have gP2 := fun y => gr_cell (w := wr) (BPw.cell 2) y
                refine rg_region [0, 1, 2, 3, 4, 5, 6] [7] (lo := (.cons _ .nil)) (by rfl) (tAt 5 (eVal (.int .i64 (moveP tn yl))) tNil) (by kernel_rfl) (by rfl) (by kernel_rfl) ?_
                refine rg_quiet anti_end [0, 1, 2, 3, 4] [5, 6] (lo := (.cons _ (.cons _ (.cons _ (.cons _ (.cons _ .nil)))))) (by rfl) (by kernel_rfl) ?_
                repeat (go_big_quiet_step (fail))
                refine wpQuiet_nil ?_
                refine rg_call 5 rfl rfl 107 #[.int .i64 yl, .pointer (some ⟨w.heap.size + 1, 0, none⟩)] ?_ ?_ ?_
                · intro w; first | (simp [go_sem]; done) | (simp [go_sem]; rfl) | rfl
                · rintro w' ⟨y, rfl⟩ hd
                  refine (place_ct (w.heap.size + 1) tn yl _ (BTw.below (gr_below _ _)) (HT.out.below (bthen hbw (gr_below _ _))) HPY.out).mono ?_
                  rintro e w3 ⟨rfl, bb⟩
                  exact ⟨_, rfl, bb, rfl⟩
                intro v hv
                obtain rfl : v = .int .i64 (moveP tn yl) := hv
                simp only [Act.put, List.setIfInBounds_toArray, List.set_cons_zero, List.set_cons_succ]
                refine rg_quiet anti_end [6] [] (lo := (.cons _ .nil)) (by rfl) (by kernel_rfl) ?_
                repeat (go_big_quiet_step (fail))
                refine wpQuiet_nil ?_
                intro w4 U hb4 hF
                have hlt := hB.lt
                have hB4 := hB.keep (keep_below hb4 (fun p hp => (hlt p hp).2))
                obtain ⟨gl', e', _, hcy4, hfr4, hst⟩ := hB4.site hN (progI_get (f := fun _ => moveP tn) HY.out)
                obtain rfl : gl = gl' := by simpa using e'
                have hst := hst (moveP tn yl) (i64_move HT.out.2 ⟨HPY.out.1, by have := HPY.out.2; omega⟩)
                have HST := Lib.hid hst
                have oW4 := oW.more hb4
                clear hst hB hB4 hF gP2 hcy oW hlt e'
                go_wp2_with fail
                go_roundw
                case rel => exact ⟨j + 1, by omega, by go_num, oW4.setCell hgm _, by rw [progI_set HY.out]; exact HST.out⟩
                case measure => simp [intOf]; omega
              · have e : j = b.sites.length := by omega
                subst e
                rw [progI_all] at hB
                have q := BAw.cell
                have qq := BPw.cell
                go_wp2_with fail
                clear q qq
                obtain ⟨wc, rfl⟩ : ∃ W, W = wr := ⟨_, rfl⟩
                obtain ⟨SS, hSS⟩ : ∃ l, l = b.sites.map (moveP tn) := ⟨_, rfl⟩
                rw [← hSS] at hB
                have HSS := Lib.hid hSS
                have hB0 : BigOwn n0 wc (.agg #[.int .i64 b.roots, .slice d1 b.nodes.length e1, .slice d2 b.sites.length e2, .int .i64 b.edges, .slice d3 b.outer.length e3, .slice d4 b.inner.length e4]) ⟨b.roots, NS, SS, b.edges, b.outer, progW (fun _ => tieP b.edges es) b.inner 0⟩ bs := by rw [progW_zero]; exact hB
                have hbA := hbw
                have BAA := BAw
                have BTA := BTw
                have BEA := BEw
                have BRA := BRw
                have BPA := BPw
                clear hB hSS hbw BAw BTw BEw BRw BPw oW BA BT BE BR BP hb
                go_loopw [103, 19, 20] (fun i _ _ W => ∃ j : Nat, j ≤ b.inner.length ∧ i = .int .i64 j ∧ Only bs wc W ∧ BigOwn n0 W (.agg #[.int .i64 b.roots, .slice d1 b.nodes.length e1, .slice d2 b.sites.length e2, .int .i64 b.edges, .slice d3 b.outer.length e3, .slice d4 b.inner.length e4]) ⟨b.roots, NS, SS, b.edges, b.outer, progW (fun _ => tieP b.edges es) b.inner j⟩ bs) (fun i _ _ _ => b.inner.length - (intOf i).toNat)
                case atStart => exact ⟨0, Nat.zero_le _, rfl, Only.refl _ _, hB0⟩
                case round =>
                  clear hB0
                  obtain ⟨j, hj, rfl, oW, hB⟩ := hrel
                  have BAw := BAA.keep (oW.block _ BAA.lt (fun h => by have := (hbs.out _ h).1; have := HG0.out; omega))
                  have BTw := BTA.keep (oW.block _ BTA.lt (fun h => by have := (hbs.out _ h).1; have := HG0.out; omega))
                  have BEw := BEA.keep (oW.block _ BEA.lt (fun h => by have := (hbs.out _ h).1; have := HG0.out; omega))
                  have BRw := BRA.keep (oW.block _ BRA.lt (fun h => by have := (hbs.out _ h).1; have := HG0.out; omega))
                  have BPw := BPA.keep (oW.block _ BPA.lt (fun h => (hbs.out _ h).2 rfl))
                  have hbw : Below w.heap.size w wr := hbA.trans (oW.below (B := w.heap.size) (fun p hp => by have := (hbs.out p hp).1; have := HG0.out; omega) (by have := hbA.size; omega))
                  by_cases hjl : j < b.inner.length
                  · obtain ⟨x, hx⟩ := getElem?_of_lt hjl
                    obtain ⟨_, _, es0, _, _, Hs⟩ := (HWI.out.below hbw).open
                    obtain ⟨rfl, rfl⟩ := (by simpa using es0 : a4 = _ ∧ c4 = _)
                    obtain ⟨_, _, sb, so, rfl, hcs, hcs1⟩ := Hs j x hx
                    have HX := Lib.hid hx
                    have hxb := HD.out.wire x (List.mem_of_getElem? hx)
                    have HXL : Hid ((0 ≤ x.link ∧ x.link < 1073741824) ∧ (x.link < b.edges → x.link < (es.length : Int))) := by have h1 := HD.out.edges; have h2 := HD.out.outer; have h3 := HP2.out.2; exact ⟨⟨by omega, by omega⟩, fun h => by omega⟩
                    obtain ⟨g, rfl, hgb, hc0, hc1, _, _⟩ := hB.wire hN (progW_get (f := fun _ => (tieP b.edges es)) hx)
                    have q := BPw.cell
                    clear hx hxb Hs es0
                    go_wp2_with fail
                    clear q
                    obtain ⟨wb, rfl⟩ : ∃ W, W = wr := ⟨_, rfl⟩
                    obtain ⟨gx, hgx⟩ : ∃ g, g = wb.heap.size := ⟨_, rfl⟩
                    obtain ⟨W8, hW8⟩ : ∃ W, W = wb.alloc (.cells #[.string x.name, .int .i64 x.link] 84) := ⟨_, rfl⟩
                    first | rw [← hW8] | fail "world8"
                    have bx : Below wb.heap.size wb W8 := by rw [hW8]; exact balloc _ _
                    have BX : Box W8 gx #[.string x.name, .int .i64 x.link] 84 := by rw [hW8, hgx]; exact Box.new _ _ _
                    have hlt := hB.lt
                    have hB8 := hB.keep (keep_below bx (fun p hp => (hlt p hp).2))
                    have oW8 := oW.more bx
                    have hb8 := bthen hbw bx
                    have BA8 := BAw.below bx
                    have BT8 := BTw.below bx
                    have BE8 := BEw.below bx
                    have BR8 := BRw.below bx
                    have BP8 := BPw.below bx
                    rw [← hgx]
                    clear hW8 hgx hB hc0 hc1 hlt bx oW hbw BAw BTw BEw BRw BPw hcs hcs1
                    have gX1 := fun y => gr_cell (w := W8) (BX.cell 1) y
                    have gP5 := fun y => gr_cell (w := W8) (BP8.cell 5) y
                    refine rg_region [0, 1, 2, 3, 4, 5, 6, 7, 8] [9] (lo := (.cons _ .nil)) (by rfl) (tAt 6 (eVal (.int .i64 (tieP b.edges es x.link))) tNil) (by kernel_rfl) (by rfl) (by kernel_rfl) ?_
                    refine rg_quiet anti_end [0, 1, 2, 3, 4, 5] [6, 7, 8] (lo := (.cons _ (.cons _ (.cons _ (.cons _ (.cons _ (.cons _ .nil))))))) (by rfl) (by kernel_rfl) ?_
                    repeat (go_big_quiet_step (fail))
                    refine wpQuiet_nil ?_
                    refine rg_call 6 rfl rfl 108 #[.int .i64 x.link, .pointer (some ⟨w.heap.size, 0, none⟩), .pointer (some ⟨w.heap.size + 2, 0, none⟩)] ?_ ?_ ?_
                    · intro w; first | (simp [go_sem]; done) | (simp [go_sem]; rfl) | rfl
                    · rintro w' ⟨y, rfl⟩ hd
                      refine (tie_ct w.heap.size (w.heap.size + 2) b es x.link _ (BA8.below (gr_below _ _)) (BE8.below (gr_below _ _)) (HES.out.below (bthen hb8 (gr_below _ _))) HXL.out.1 HXL.out.2).mono ?_
                      rintro e w3 ⟨rfl, bb⟩
                      exact ⟨_, rfl, bb, rfl⟩
                    intro v hv
                    obtain rfl : v = .int .i64 (tieP b.edges es x.link) := hv
                    simp only [Act.put, List.setIfInBounds_toArray, List.set_cons_zero, List.set_cons_succ]
                    refine rg_quiet anti_end [7, 8] [] (lo := (.cons _ (.cons _ .nil))) (by rfl) (by kernel_rfl) ?_
                    repeat (go_big_quiet_step (fail))
                    refine wpQuiet_nil ?_
                    intro w5 U hb5 hF
                    have hlt := hB8.lt
                    have hB5 := hB8.keep (keep_below hb5 (fun p hp => (hlt p hp).2))
                    obtain ⟨g', e', _, hc5, hd5, hfr5, hst⟩ := hB5.wire hN (progW_get (f := fun _ => (tieP b.edges es)) HX.out)
                    obtain rfl : g = g' := by simpa using e'
                    have hst := hst (tieP b.edges es x.link) (i64_tie HES.out.2 HXL.out.1)
                    have HST := Lib.hid hst
                    have oW5 := oW8.more hb5
                    clear hst hB8 hB5 hF gX1 gP5 oW8 hlt e'
                    go_wp2_with fail
                    go_roundw
                    case rel => exact ⟨j + 1, by omega, by go_num, oW5.setCell hgb _, by rw [progW_set HX.out]; exact HST.out⟩
                    case measure => simp [intOf]; omega
                  · have e : j = b.inner.length := by omega
                    subst e
                    rw [progW_full, allW_map, HNS.out, HSS.out] at hB
                    have hB : BigOwn n0 wr (.agg #[.int .i64 b.roots, .slice d1 b.nodes.length e1, .slice d2 b.sites.length e2, .int .i64 b.edges, .slice d3 b.outer.length e3, .slice d4 b.inner.length e4]) (renB b tn es) bs := hB
                    have q := BPw.cell
                    go_wp2_with fail
                    clear q
                    refine (valid_ct _ _ sig (renB b tn es) _ ⟨HC.out.sig.below hbw, hB.at⟩).mono ?_
                    rintro e w8 ⟨u8, bs8, rfl, hB8, hN8, bb⟩
                    obtain ⟨f1, g1, f2, g2, f3, g3, f4, g4, rfl⟩ := hB8.at.shape
                    have BR8 := BRw.below bb
                    have hb8 := bthen hbw bb
                    have hsw := hbw.size
                    have hb0 := BRw.lt
                    have q2 := BR8.cell
                    have ff := BR8.free
                    clear bb hB
                    go_wp2_with fail
                    refine bodyPost_ret (v := .tuple #[.agg #[.int .i64 (validR sig (renB b tn es)).roots, .slice f1 (validR sig (renB b tn es)).nodes.length g1, .slice f2 (validR sig (renB b tn es)).sites.length g2, .int .i64 (validR sig (renB b tn es)).edges, .slice f3 (validR sig (renB b tn es)).outer.length g3, .slice f4 (validR sig (renB b tn es)).inner.length g4], .bool (goodB sig (renB b tn es))]) (by simp [results, Tryz.results36, go_sem, q2]) rfl ⟨_, bs8, rfl, (fill6 hB8 (by omega) _ _ _ _ _ _).mono (by omega), hN8, fill6b hb8 (by omega) _ _ _ _ _ _⟩
end Go.Proofs.YthbdmcobpcoajaaGreatDoor
