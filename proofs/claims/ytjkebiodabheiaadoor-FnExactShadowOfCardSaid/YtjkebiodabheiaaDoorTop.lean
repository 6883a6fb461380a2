/- Shadows: the root under which a place is. -/
import Derived.Test.YtjkebiodabheiaaDoorAbove
import Derived.Test.YtjkebiodabheiaaDoorRg2
import Derived.Test.YtjkebiodabheiaaDoorLaw1
import Derived.Test.YtjkebiodabheiaaDoorAppR
namespace Go.Proofs.YtjkebiodabheiaaDoor
open Go Go.RowKit Go.BigFrame

/-- The last of the places above, or the place itself. -/
def topOf (b : Big) (p : Int) : Int := (aboveF b 9 p).getLastD p
def topsL (b : Big) : List Int := b.sites.map (topOf b)
def shadowR (sig : List Ctl) (b : Big) : Big := if goodB sig b then ⟨b.roots, [], topsL b, 0, [], []⟩ else noBig
theorem getLastD_cons {α : Type} (x d : α) (l : List α) : (x :: l).getLastD d = l.getLastD x := List.getLastD_cons ..  
theorem getLastD_get {l : List Int} {k : Nat} {d : Int} (h : l.length = k + 1) : l[k]? = some (l.getLastD d) := by
  have hne : l ≠ [] := by intro e; simp [e] at h
  rw [List.getLastD_eq_getLast?, List.getLast?_eq_getElem?, show l.length - 1 = k by omega, List.getElem?_eq_getElem (by omega)]; rfl
theorem AboveR.neg {b : Big} {p : Int} {l : List Int} (h : AboveR b p l) : l.getLastD p < 0 := by
  induction h with
  | nil p h => simpa using h
  | cons k n l h t ih => rw [getLastD_cons]; exact ih
theorem AboveR.last64 {b : Big} (hi : ∀ (i : Nat) n, b.nodes[i]? = some n → I64 n.par) {p : Int} {l : List Int} (h : AboveR b p l) (hp : I64 p) : I64 (l.getLastD p) := by
  induction h with
  | nil p h => simpa using hp
  | cons k n l h t ih => rw [getLastD_cons]; exact ih (hi k n h)
theorem topOf_rel {b : Big} (hd : Down b) (h8 : b.nodes.length ≤ 8) {p : Int} (hp : p < b.nodes.length) : AboveR b p (aboveF b 9 p) := above_rel hd 9 p (by omega) hp
theorem shadowR_len (sig : List Ctl) (b : Big) : (cntB (shadowR sig b) : Int) ≤ 100000000 := by
  unfold shadowR
  split
  · rename_i h
    have hs := (good_of h).sites
    unfold cntB cntN topsL
    simp only [sumOf_nil, List.length_nil, List.length_map]
    omega
  · unfold cntB cntN noBig
    simp [sumOf_nil]

def topRows (b : Big) (k : Nat) : List (List Value) := intRows ((topsL b).take k)
theorem topRows_len {b : Big} {k : Nat} (h : k ≤ b.sites.length) : (topRows b k).length = k := by simp [topRows, intRows, topsL]; omega
theorem topRows_snoc {b : Big} {k : Nat} {p : Int} (h : b.sites[k]? = some p) : topRows b (k + 1) = topRows b k ++ [[.int .i64 (topOf b p)]] := by
  unfold topRows
  rw [take_snoc_l (show (topsL b)[k]? = some (topOf b p) by simp [topsL, h])]; simp [intRows]
theorem topRows_full (b : Big) : topRows b b.sites.length = intRows (topsL b) := by unfold topRows; rw [List.take_of_length_le (by simp [topsL])]
theorem topOf_neg {b : Big} {p : Int} (h : p < 0) : topOf b p = p := by unfold topOf aboveF; rw [if_pos h]; rfl

set_option maxRecDepth 100000 in
set_option maxHeartbeats 4000000 in
theorem implShadowOf_ct (vs v : Value) (sig : List Ctl) (b : Big) (w : World) (h : Ctx w vs v sig b) : Calls Tryd.prog 33 #[vs, v] w (GivesBig (shadowR sig b) (goodB sig b) w) := by
  obtain ⟨a1, c1, a2, c2, a3, c3, a4, c4, rfl⟩ := h.big.shape
  have hA := bthen (balloc w (.cells #[.int .i64 b.roots, .slice a1 b.nodes.length c1, .slice a2 b.sites.length c2, .int .i64 b.edges, .slice a3 b.outer.length c3, .slice a4 b.inner.length c4] 43)) (balloc (w.alloc (.cells #[.int .i64 b.roots, .slice a1 b.nodes.length c1, .slice a2 b.sites.length c2, .int .i64 b.edges, .slice a3 b.outer.length c3, .slice a4 b.inner.length c4] 43)) (.cells #[.int .i64 0, .slice none 0 0, .slice none 0 0, .int .i64 0, .slice none 0 0, .slice none 0 0] 43))
  obtain ⟨W0, hW0⟩ : ∃ W, W = (w.alloc (.cells #[.int .i64 b.roots, .slice a1 b.nodes.length c1, .slice a2 b.sites.length c2, .int .i64 b.edges, .slice a3 b.outer.length c3, .slice a4 b.inner.length c4] 43)).alloc (.cells #[.int .i64 0, .slice none 0 0, .slice none 0 0, .int .i64 0, .slice none 0 0, .slice none 0 0] 43) := ⟨_, rfl⟩
  have BA : Box W0 w.heap.size #[.int .i64 b.roots, .slice a1 b.nodes.length c1, .slice a2 b.sites.length c2, .int .i64 b.edges, .slice a3 b.outer.length c3, .slice a4 b.inner.length c4] 43 := by rw [hW0]; exact (Box.new _ _ _).alloc _
  have BR : Box W0 (w.heap.size + 1) #[.int .i64 0, .slice none 0 0, .slice none 0 0, .int .i64 0, .slice none 0 0, .slice none 0 0] 43 := by rw [hW0]; exact Box.new' _ _ _ (by simp)
  cases hg : goodB sig b with
  | false =>
    have HN : Hid (shadowR sig b = noBig) := by show _ = _; unfold shadowR; rw [hg]; rfl
    rw [HN.out]
    go_enter Tryd.func33, Tryd.ntmps33
    go_wp2_with fail
    rw [← hW0] at hA ⊢
    clear hW0
    refine (implIsBigraph_ct _ _ sig b false _ (h.below hA) hg).mono ?_
    rintro e w2 ⟨rfl, hb⟩
    have BR := BR.below hb
    have q := BR.cell
    have f := BR.free
    have hb := bthen hA hb
    go_wp2_with fail
    refine bodyPost_ret (v := .tuple #[.agg #[.int .i64 0, .slice none 0 0, .slice none 0 0, .int .i64 0, .slice none 0 0, .slice none 0 0], .bool false]) (by simp [results, Tryd.results33, go_sem, q]) rfl ⟨_, _, rfl, noBig_own _ _, by simp, ?_⟩
    iterate 6 refine Below.setCell ?_ (by simp) _
    exact hb
  | true =>
    have hG := good_of hg
    have hd := hG.down
    have h8 := hG.nodes
    have h4 := hG.sites
    have hro := hG.roots
    have HU : Hid (∀ p ∈ b.sites, p < b.nodes.length) := fun p hp => by
      have := hG.site p hp
      unfold underB at this
      split at this
      · omega
      · simp only [Bool.and_eq_true, decide_eq_true_eq] at this; exact this.1
    have HN : Hid (shadowR sig b = ⟨b.roots, [], topsL b, 0, [], []⟩) := by show _ = _; unfold shadowR; rw [hg]; rfl
    rw [HN.out]
    have hbig := h.big
    obtain ⟨_, _, _, _, _, _, _, _, e0, hnds, hsit, _, _, _, _⟩ := h.big.parts
    simp only [Value.agg.injEq, Array.mk.injEq, List.cons.injEq, and_true, true_and, Value.slice.injEq] at e0
    obtain ⟨⟨rfl, rfl⟩, ⟨rfl, rfl⟩, ⟨rfl, rfl⟩, rfl, rfl⟩ := e0
    obtain ⟨_, _, e, _, ln, n3⟩ := hsit.open
    obtain ⟨rfl, rfl⟩ := (by simpa using e : a2 = _ ∧ c2 = _)
    have N3 : Hid _ := n3
    obtain ⟨_, _, _, _, _, n4⟩ := hnds.open
    have HI : Hid (∀ (i : Nat) n, b.nodes[i]? = some n → I64 n.par) := fun i n hn => (n4 i n hn).2.1
    have HD : Hid (Down b) := hd
    clear e hnds hsit n3 n4 hG hd
    have hx := h.below hA
    go_enter Tryd.func33, Tryd.ntmps33
    go_wp2_with fail
    rw [← hW0] at hA hx ⊢
    clear hW0
    refine (implIsBigraph_ct _ _ sig b true _ hx hg).mono ?_
    rintro e w2 ⟨rfl, hb⟩
    have BA := BA.below hb
    have BR := BR.below hb
    have hb := bthen hA hb
    clear hx hg h hA
    have q := BA.cell
    have q1 := (BA.alloc (.cells #[.int .i64 b.roots, .slice none 0 0, .slice none 0 0, .int .i64 0, .slice none 0 0, .slice none 0 0] 43)).cell
    go_wp2_with fail
    clear q q1
    obtain ⟨W1, hW1⟩ : ∃ W, W = w2.alloc (.cells #[.int .i64 b.roots, .slice none 0 0, .slice none 0 0, .int .i64 0, .slice none 0 0, .slice none 0 0] 43) := ⟨_, rfl⟩
    rw [← hW1]
    have hlt := BR.lt
    have BA : Box W1 w.heap.size #[.int .i64 b.roots, .slice a1 b.nodes.length c1, .slice a2 b.sites.length c2, .int .i64 b.edges, .slice a3 b.outer.length c3, .slice a4 b.inner.length c4] 43 := by rw [hW1]; exact BA.alloc _
    have BR : Box W1 (w.heap.size + 1) #[.int .i64 0, .slice none 0 0, .slice none 0 0, .int .i64 0, .slice none 0 0, .slice none 0 0] 43 := by rw [hW1]; exact BR.alloc _
    have BC : Box W1 w2.heap.size #[.int .i64 b.roots, .slice none 0 0, .slice none 0 0, .int .i64 0, .slice none 0 0, .slice none 0 0] 43 := by rw [hW1]; exact Box.new _ _ _
    have hb : Below w.heap.size w W1 := by rw [hW1]; exact bthen hb (balloc _ _)
    have hs : w2.heap.size + 1 ≤ W1.heap.size := by rw [hW1]; simp
    obtain ⟨n0, hn0⟩ : ∃ n, n = w2.heap.size := ⟨_, rfl⟩
    rw [← hn0] at BC hs hlt ⊢
    clear hW1 hn0
    go_loopw [21] (fun i W => ∃ k : Nat, k ≤ b.sites.length ∧ i = .int .i64 k ∧ Below w.heap.size w W ∧ n0 + 1 ≤ W.heap.size ∧ Box W w.heap.size #[.int .i64 b.roots, .slice a1 b.nodes.length c1, .slice a2 b.sites.length c2, .int .i64 b.edges, .slice a3 b.outer.length c3, .slice a4 b.inner.length c4] 43 ∧ Box W (w.heap.size + 1) #[.int .i64 0, .slice none 0 0, .slice none 0 0, .int .i64 0, .slice none 0 0, .slice none 0 0] 43 ∧ ∃ vs, Box W n0 #[.int .i64 b.roots, .slice none 0 0, vs, .int .i64 0, .slice none 0 0, .slice none 0 0] 43 ∧ Acc W (n0 + 1) 3 1 vs (topRows b k)) (fun i _ => b.sites.length - (intOf i).toNat)
    case atStart => exact ⟨0, Nat.zero_le _, rfl, hb, hs, BA, BR, _, BC, Acc.nil _ _ _ _⟩
    case round =>
      clear BA BR BC hb hs W1
      obtain ⟨k, hk, rfl, hb, hs, BA, BR, vs, BC, acc⟩ := hrel
      obtain ⟨av, cv, rfl⟩ := acc.shape
      have HL : Hid ((topRows b k).length = k) := topRows_len hk
      rw [HL.out] at BC acc
      by_cases hkl : k < b.sites.length
      · obtain ⟨p, hp⟩ := getElem?_of_lt hkl
        have hpn := HU.out p (List.mem_of_getElem? hp)
        have HT : Hid (topRows b (k + 1) = topRows b k ++ [[.int .i64 (topOf b p)]]) := topRows_snoc hp
        obtain ⟨hpI, bk, o, rfl, hc⟩ := N3.out k p hp
        have g1 := (hb.cell (World.block_lt_of_cell? w _ hc)).trans hc
        have hpI' := hpI
        unfold I64 at hpI'
        have q := BA.cell
        have q2 := BC.cell
        have f2 := BC.free
        clear hc hp
        by_cases h0 : 0 ≤ p
        · obtain ⟨j, rfl⟩ : ∃ j : Nat, p = j := ⟨p.toNat, by omega⟩
          have habv := topOf_rel HD.out h8 hpn
          obtain ⟨n, hn⟩ := getElem?_of_lt (show j < b.nodes.length by omega)
          obtain ⟨r, hr1, _⟩ := AboveR.step habv hn
          obtain ⟨L, hL⟩ : ∃ L, (aboveF b 9 (j : Int)).length = L + 1 := ⟨r.length, by rw [hr1]; rfl⟩
          have HG : Hid ((aboveF b 9 (j : Int))[L]? = some (topOf b j)) := getLastD_get hL
          have H9 := AboveR.len HD.out habv (by omega)
          rw [hL] at H9
          have HA : Hid (AboveR b j (aboveF b 9 (j : Int))) := habv
          have hbw := hbig.below hb
          clear habv hn hr1
          go_wp2_with fail
          refine (ancestorsOf_ct _ b j _ _ hbw HD.out (by omega) HA.out h8).mono ?_
          rintro e w3 ⟨u, rfl, hu, hb3⟩
          obtain ⟨ua, uc, rfl, _, _, u3⟩ := hu.at.open
          obtain ⟨htI, ub, uo, rfl, uc1⟩ := u3 L _ HG.out
          rw [hL]
          clear hu u3 hbw q q2 f2
          have g1 := (hb3.cell (World.block_lt_of_cell? _ _ g1)).trans g1
          have BA := BA.below hb3
          have BR := BR.below hb3
          have BC := BC.below hb3
          have acc := acc.below hb3
          have hb := bthen hb hb3
          have hs := Nat.le_trans hs hb3.size
          have q := BA.cell
          have q2 := BC.cell
          have f2 := BC.free
          go_wp2_with (at_builtin; refine app1g _ _ rfl (.tmp 37) (.tmp 39) 30 rfl (n0 + 1) 3 1 8 (.int .i64 0) Tryd.underlying30 inf_int rfl (by decide) (by decide) _ (topRows b k) (by rfl) acc [.int .i64 (topOf b j)] _ rfl (by simp [Value.oneCell']) (by rfl) (by first | rfl | simp) (by rw [HL.out]; omega) hs ?_)
          intro g cc w4 acc2 hg
          rw [HL.out, ← HT.out] at acc2
          rw [HL.out]
          have hb2 := grown_below hb acc hg (by omega) (by omega)
          have hs2 := Nat.le_trans hs hg.size
          have BA2 := BA.keep (grown_block acc hg (by omega) BA.lt)
          have BR2 := BR.keep (grown_block acc hg (by omega) BR.lt)
          have BC2 := BC.keep (grown_block acc hg (by omega) BC.lt)
          clear acc hg BA BR BC q q2 f2 hb hs g1 uc1
          have q := BC2.cell
          have f := BC2.free
          go_wp2_with fail
          go_roundw
          case rel => exact ⟨k + 1, by omega, by go_num, hb2.setCell (by simp <;> omega) _, by simpa [size_setCell] using hs2, BA2.other _ (by simp <;> omega), BR2.other _ (by simp <;> omega), _, BC2.set 2 _, acc2.keep (fun j hj _ => heap_setCell_other _ _ _ _ (by simp <;> omega))⟩
          case measure => simp [intOf]; omega
        · have HT : Hid (topRows b (k + 1) = topRows b k ++ [[.int .i64 p]]) := by have := HT.out; rw [topOf_neg (by omega)] at this; exact this
          go_wp2_with (at_builtin; refine app1g _ _ rfl (.tmp 37) (.tmp 39) 30 rfl (n0 + 1) 3 1 8 (.int .i64 0) Tryd.underlying30 inf_int rfl (by decide) (by decide) _ (topRows b k) (by rfl) acc [.int .i64 p] _ rfl (by simp [Value.oneCell']) (by rfl) (by first | rfl | simp) (by rw [HL.out]; omega) hs ?_)
          intro g cc w4 acc2 hg
          rw [HL.out, ← HT.out] at acc2
          rw [HL.out]
          have hb2 := grown_below hb acc hg (by omega) (by omega)
          have hs2 := Nat.le_trans hs hg.size
          have BA2 := BA.keep (grown_block acc hg (by omega) BA.lt)
          have BR2 := BR.keep (grown_block acc hg (by omega) BR.lt)
          have BC2 := BC.keep (grown_block acc hg (by omega) BC.lt)
          clear acc hg BA BR BC q q2 f2 hb hs g1
          have q := BC2.cell
          have f := BC2.free
          go_wp2_with fail
          go_roundw
          case rel => exact ⟨k + 1, by omega, by go_num, hb2.setCell (by simp <;> omega) _, by simpa [size_setCell] using hs2, BA2.other _ (by simp <;> omega), BR2.other _ (by simp <;> omega), _, BC2.set 2 _, acc2.keep (fun j hj _ => heap_setCell_other _ _ _ _ (by simp <;> omega))⟩
          case measure => simp [intOf]; omega
      · have e : k = b.sites.length := by omega
        subst e
        rw [topRows_full] at acc
        have HII : Hid (∀ x ∈ topsL b, I64 x) := fun x hx => by
          obtain ⟨p, hp, rfl⟩ := List.mem_map.1 hx
          obtain ⟨i, hi⟩ := List.mem_iff_getElem?.1 hp
          exact AboveR.last64 HI.out (topOf_rel HD.out h8 (HU.out p hp)) (N3.out i p hi).1
        have q := BC.cell
        have q0 := BR.cell
        have f0 := BR.free
        go_wp2_with fail
        refine bodyPost_ret (v := .tuple #[.agg #[.int .i64 b.roots, .slice none 0 0, .slice av b.sites.length cv, .int .i64 0, .slice none 0 0, .slice none 0 0], .bool true]) (by simp [results, Tryd.results33, go_sem, q0]) rfl ⟨_, _, rfl, ⟨_, _, _, _, [], by simp [topsL], nds_none _ _, ⟨(acc.own.keep ?_).mono (by omega), ?_, HII.out⟩, strs_none _ _, wrs_none _ _, by unfold I64; dsimp only; omega, by unfold I64; dsimp only; omega, rfl⟩, ?_, ?_⟩
        · intro g hg; have := (acc.own.lt g hg); repeat rw [heap_setCell_other _ _ _ _ (by simp <;> omega)]
        · simp only [topsL, List.length_map]; omega
        · simpa [blks] using blks_nodup _ _ _
        · iterate 6 refine Below.setCell ?_ (by simp) _
          exact hb
set_option maxRecDepth 100000 in
set_option maxHeartbeats 4000000 in
theorem l3Top_ct (v : Value) (b : Big) (p : Int) (w : World) (h : BigAt w v b) (hd : Down b) (hp : p < b.nodes.length) (hI : I64 p) (h8 : b.nodes.length ≤ 8) : Calls Tryd.prog 75 #[v, .int .i64 p] w fun e w' => e = .returned (.int .i64 (topOf b p)) ∧ Below w.heap.size w w' := by
  obtain ⟨a1, c1, a2, c2, a3, c3, a4, c4, rfl, hnds, _, _, _, _, _⟩ := h.parts
  obtain ⟨_, _, e, _, nl, n3⟩ := hnds.open
  obtain ⟨rfl, rfl⟩ := (by simpa using e : a1 = _ ∧ c1 = _)
  have N3 : Hid _ := n3
  have HD : Hid (Down b) := hd
  obtain ⟨l, HL⟩ : ∃ l, Hid (AboveR b p l ∧ l.getLastD p = topOf b p) := ⟨_, topOf_rel hd h8 hp, rfl⟩
  clear e hnds h n3 hd
  go_enter Tryd.func75, Tryd.ntmps75
  go_wp2_with fail
  obtain ⟨W0, hW0⟩ : ∃ W, W = w.alloc (.cells #[.int .i64 b.roots, .slice a1 b.nodes.length c1, .slice a2 b.sites.length c2, .int .i64 b.edges, .slice a3 b.outer.length c3, .slice a4 b.inner.length c4] 43) := ⟨_, rfl⟩
  rw [← hW0]
  have BA : Box W0 w.heap.size #[.int .i64 b.roots, .slice a1 b.nodes.length c1, .slice a2 b.sites.length c2, .int .i64 b.edges, .slice a3 b.outer.length c3, .slice a4 b.inner.length c4] 43 := by rw [hW0]; exact Box.new _ _ _
  have hb : Below w.heap.size w W0 := by rw [hW0]; exact balloc _ _
  clear hW0
  go_loopw [1] (fun q W => ∃ (x : Int) (R : List Int), q = .int .i64 x ∧ I64 x ∧ x < b.nodes.length ∧ Hid (AboveR b x R ∧ R.getLastD x = topOf b p) ∧ Below w.heap.size w W ∧ Box W w.heap.size #[.int .i64 b.roots, .slice a1 b.nodes.length c1, .slice a2 b.sites.length c2, .int .i64 b.edges, .slice a3 b.outer.length c3, .slice a4 b.inner.length c4] 43) (fun q _ => (intOf q + 1).toNat)
  case atStart => exact ⟨p, l, rfl, hI, hp, HL, hb, BA⟩
  case round =>
    clear hb BA W0 HL
    obtain ⟨x, R, rfl, hxI, hxl, HR, hb, BA⟩ := hrel
    unfold I64 at hxI
    by_cases hlt : 0 ≤ x
    · obtain ⟨k, rfl⟩ : ∃ k : Nat, x = k := ⟨x.toNat, by omega⟩
      obtain ⟨n, hn⟩ := getElem?_of_lt (show k < b.nodes.length by omega)
      obtain ⟨R', hR1, hR2⟩ := AboveR.step HR.out.1 hn
      have hdn := HD.out k n hn
      obtain ⟨_, hpI, bk, o', ul, rfl, _, _, hc1, _⟩ := N3.out k n hn
      have g1 := (hb.cell (World.block_lt_of_cell? w _ hc1)).trans hc1
      have HR2 : Hid (AboveR b n.par R' ∧ R'.getLastD n.par = topOf b p) := ⟨hR2, by have := HR.out.2; rw [hR1, getLastD_cons] at this; exact this⟩
      have q := BA.cell
      clear hc1 hn hR1 hR2 HR
      go_wp2_with fail
      go_roundw
      case rel => exact ⟨n.par, R', rfl, hpI, by omega, HR2, hb, BA⟩
      case measure => simp [intOf]; omega
    · have HT : Hid (topOf b p = x) := by
        have := HR.out
        rw [AboveR.end this.1 (by omega)] at this
        exact this.2.symm
      clear HR
      go_wp2_with fail
      go_ret
      exact ⟨by rw [HT.out]; rfl, hb⟩

set_option maxRecDepth 100000 in
set_option maxHeartbeats 4000000 in
theorem specShadowOf_ct (vs v : Value) (sig : List Ctl) (b : Big) (w : World) (h : Ctx w vs v sig b) : Calls Tryd.prog 32 #[vs, v] w (GivesBig (shadowR sig b) (goodB sig b) w) := by
  obtain ⟨a1, c1, a2, c2, a3, c3, a4, c4, rfl⟩ := h.big.shape
  have hA := bthen (balloc w (.cells #[.int .i64 b.roots, .slice a1 b.nodes.length c1, .slice a2 b.sites.length c2, .int .i64 b.edges, .slice a3 b.outer.length c3, .slice a4 b.inner.length c4] 43)) (balloc (w.alloc (.cells #[.int .i64 b.roots, .slice a1 b.nodes.length c1, .slice a2 b.sites.length c2, .int .i64 b.edges, .slice a3 b.outer.length c3, .slice a4 b.inner.length c4] 43)) (.cells #[.int .i64 0, .slice none 0 0, .slice none 0 0, .int .i64 0, .slice none 0 0, .slice none 0 0] 43))
  obtain ⟨W0, hW0⟩ : ∃ W, W = (w.alloc (.cells #[.int .i64 b.roots, .slice a1 b.nodes.length c1, .slice a2 b.sites.length c2, .int .i64 b.edges, .slice a3 b.outer.length c3, .slice a4 b.inner.length c4] 43)).alloc (.cells #[.int .i64 0, .slice none 0 0, .slice none 0 0, .int .i64 0, .slice none 0 0, .slice none 0 0] 43) := ⟨_, rfl⟩
  have BA : Box W0 w.heap.size #[.int .i64 b.roots, .slice a1 b.nodes.length c1, .slice a2 b.sites.length c2, .int .i64 b.edges, .slice a3 b.outer.length c3, .slice a4 b.inner.length c4] 43 := by rw [hW0]; exact (Box.new _ _ _).alloc _
  have BR : Box W0 (w.heap.size + 1) #[.int .i64 0, .slice none 0 0, .slice none 0 0, .int .i64 0, .slice none 0 0, .slice none 0 0] 43 := by rw [hW0]; exact Box.new' _ _ _ (by simp)
  cases hg : goodB sig b with
  | false =>
    have HN : Hid (shadowR sig b = noBig) := by show _ = _; unfold shadowR; rw [hg]; rfl
    rw [HN.out]
    go_enter Tryd.func32, Tryd.ntmps32
    go_wp2_with fail
    rw [← hW0] at hA ⊢
    clear hW0
    refine (l2Good_ct _ _ sig b false _ (h.below hA) hg).mono ?_
    rintro e w2 ⟨rfl, hb⟩
    have BR := BR.below hb
    have q := BR.cell
    have f := BR.free
    have hb := bthen hA hb
    go_wp2_with fail
    refine bodyPost_ret (v := .tuple #[.agg #[.int .i64 0, .slice none 0 0, .slice none 0 0, .int .i64 0, .slice none 0 0, .slice none 0 0], .bool false]) (by simp [results, Tryd.results32, go_sem, q]) rfl ⟨_, _, rfl, noBig_own _ _, by simp, ?_⟩
    iterate 6 refine Below.setCell ?_ (by simp) _
    exact hb
  | true =>
    have hG := good_of hg
    have hd := hG.down
    have h8 := hG.nodes
    have h4 := hG.sites
    have hro := hG.roots
    have HU : Hid (∀ p ∈ b.sites, p < b.nodes.length) := fun p hp => by
      have := hG.site p hp
      unfold underB at this
      split at this
      · omega
      · simp only [Bool.and_eq_true, decide_eq_true_eq] at this; exact this.1
    have HN : Hid (shadowR sig b = ⟨b.roots, [], topsL b, 0, [], []⟩) := by show _ = _; unfold shadowR; rw [hg]; rfl
    rw [HN.out]
    have hbig := h.big
    obtain ⟨_, _, _, _, _, _, _, _, e0, hnds, hsit, _, _, _, _⟩ := h.big.parts
    simp only [Value.agg.injEq, Array.mk.injEq, List.cons.injEq, and_true, true_and, Value.slice.injEq] at e0
    obtain ⟨⟨rfl, rfl⟩, ⟨rfl, rfl⟩, ⟨rfl, rfl⟩, rfl, rfl⟩ := e0
    obtain ⟨_, _, e, _, ln, n3⟩ := hsit.open
    obtain ⟨rfl, rfl⟩ := (by simpa using e : a2 = _ ∧ c2 = _)
    have N3 : Hid _ := n3
    obtain ⟨_, _, _, _, _, n4⟩ := hnds.open
    have HI : Hid (∀ (i : Nat) n, b.nodes[i]? = some n → I64 n.par) := fun i n hn => (n4 i n hn).2.1
    have HD : Hid (Down b) := hd
    clear e hnds hsit n3 n4 hG hd
    have hx := h.below hA
    go_enter Tryd.func32, Tryd.ntmps32
    go_wp2_with fail
    rw [← hW0] at hA hx ⊢
    clear hW0
    refine (l2Good_ct _ _ sig b true _ hx hg).mono ?_
    rintro e w2 ⟨rfl, hb⟩
    have BA := BA.below hb
    have BR := BR.below hb
    have hb := bthen hA hb
    clear hx hg h hA
    have q := BA.cell
    have q1 := (BA.alloc (.cells #[.int .i64 b.roots, .slice none 0 0, .slice none 0 0, .int .i64 0, .slice none 0 0, .slice none 0 0] 43)).cell
    go_wp2_with fail
    clear q q1
    obtain ⟨W1, hW1⟩ : ∃ W, W = w2.alloc (.cells #[.int .i64 b.roots, .slice none 0 0, .slice none 0 0, .int .i64 0, .slice none 0 0, .slice none 0 0] 43) := ⟨_, rfl⟩
    rw [← hW1]
    have hlt := BR.lt
    have BA : Box W1 w.heap.size #[.int .i64 b.roots, .slice a1 b.nodes.length c1, .slice a2 b.sites.length c2, .int .i64 b.edges, .slice a3 b.outer.length c3, .slice a4 b.inner.length c4] 43 := by rw [hW1]; exact BA.alloc _
    have BR : Box W1 (w.heap.size + 1) #[.int .i64 0, .slice none 0 0, .slice none 0 0, .int .i64 0, .slice none 0 0, .slice none 0 0] 43 := by rw [hW1]; exact BR.alloc _
    have BC : Box W1 w2.heap.size #[.int .i64 b.roots, .slice none 0 0, .slice none 0 0, .int .i64 0, .slice none 0 0, .slice none 0 0] 43 := by rw [hW1]; exact Box.new _ _ _
    have hb : Below w.heap.size w W1 := by rw [hW1]; exact bthen hb (balloc _ _)
    have hs : w2.heap.size + 1 ≤ W1.heap.size := by rw [hW1]; simp
    obtain ⟨n0, hn0⟩ : ∃ n, n = w2.heap.size := ⟨_, rfl⟩
    rw [← hn0] at BC hs hlt ⊢
    clear hW1 hn0
    go_loopw [7] (fun i W => ∃ k : Nat, k ≤ b.sites.length ∧ i = .int .i64 k ∧ Below w.heap.size w W ∧ n0 + 1 ≤ W.heap.size ∧ Box W w.heap.size #[.int .i64 b.roots, .slice a1 b.nodes.length c1, .slice a2 b.sites.length c2, .int .i64 b.edges, .slice a3 b.outer.length c3, .slice a4 b.inner.length c4] 43 ∧ Box W (w.heap.size + 1) #[.int .i64 0, .slice none 0 0, .slice none 0 0, .int .i64 0, .slice none 0 0, .slice none 0 0] 43 ∧ ∃ vs, Box W n0 #[.int .i64 b.roots, .slice none 0 0, vs, .int .i64 0, .slice none 0 0, .slice none 0 0] 43 ∧ Acc W (n0 + 1) 3 1 vs (topRows b k)) (fun i _ => b.sites.length - (intOf i).toNat)
    case atStart => exact ⟨0, Nat.zero_le _, rfl, hb, hs, BA, BR, _, BC, Acc.nil _ _ _ _⟩
    case round =>
      clear BA BR BC hb hs W1
      obtain ⟨k, hk, rfl, hb, hs, BA, BR, vs, BC, acc⟩ := hrel
      obtain ⟨av, cv, rfl⟩ := acc.shape
      have HL : Hid ((topRows b k).length = k) := topRows_len hk
      rw [HL.out] at BC acc
      by_cases hkl : k < b.sites.length
      · obtain ⟨p, hp⟩ := getElem?_of_lt hkl
        have hpn := HU.out p (List.mem_of_getElem? hp)
        have HT : Hid (topRows b (k + 1) = topRows b k ++ [[.int .i64 (topOf b p)]]) := topRows_snoc hp
        obtain ⟨hpI, bk, o, rfl, hc⟩ := N3.out k p hp
        have g1 := (hb.cell (World.block_lt_of_cell? w _ hc)).trans hc
        have hpI' := hpI
        unfold I64 at hpI'
        have hbw := hbig.below hb
        have q := BA.cell
        clear hc hp
        go_wp2_with fail
        clear q
        have gA0 := fun y => gr_cell (w := wr) (BA.cell 0) y
        have gA1 := fun y => gr_cell (w := wr) (BA.cell 1) y
        have gA2 := fun y => gr_cell (w := wr) (BA.cell 2) y
        have gA3 := fun y => gr_cell (w := wr) (BA.cell 3) y
        have gA4 := fun y => gr_cell (w := wr) (BA.cell 4) y
        have gA5 := fun y => gr_cell (w := wr) (BA.cell 5) y
        have gC := fun y => gr_cell (w := wr) (BC.cell 2) y
        have gp := fun y => gr_cell (w := wr) g1 y
        refine rg_region [0, 1, 2, 3, 4, 5, 6, 7, 8, 9] [10, 11, 12] (lo := (.cons _ (.cons _ (.cons _ .nil)))) (by rfl) (tAt 8 (eVal (.int .i64 (topOf b p))) (tAt 9 (eLit1 [.int .i64 (topOf b p)] 3) tNil)) (by kernel_rfl) (by rfl) (by kernel_rfl) ?_
        refine rg_quiet anti_end [0, 1, 2, 3, 4, 5, 6, 7] [8, 9] (lo := (.cons _ (.cons _ (.cons _ (.cons _ (.cons _ (.cons _ (.cons _ (.cons _ .nil))))))))) (by rfl) (by kernel_rfl) ?_
        repeat (go_big_quiet_step (fail))
        refine wpQuiet_nil ?_
        refine rg_call 8 rfl rfl 75 #[.agg #[.int .i64 b.roots, .slice a1 b.nodes.length c1, .slice (some ⟨bk, o, none⟩) b.sites.length c2, .int .i64 b.edges, .slice a3 b.outer.length c3, .slice a4 b.inner.length c4], .int .i64 p] ?_ ?_ ?_
        · intro w; simp [go_sem]
        · rintro w' ⟨y, rfl⟩ hd
          refine (l3Top_ct _ b p _ (hbw.below (gr_below _ _)) HD.out hpn hpI h8).mono ?_
          rintro e w3 ⟨rfl, bb⟩
          exact ⟨_, rfl, bb, rfl⟩
        intro v hv
        obtain rfl : v = .int .i64 (topOf b p) := hv
        simp only [Act.put, List.setIfInBounds_toArray, List.set_cons_zero, List.set_cons_succ]
        refine rg_made 9 rfl rfl ?_ ?_
        · rintro w' ⟨y, rfl⟩ hd
          exact ⟨_, _, by simp [go_sem]; try exact ⟨rfl, rfl⟩, balloc _ _, _, rfl, Box.new _ _ _, Nat.le_refl _, by simp⟩
        intro v hv
        obtain ⟨gl, rfl⟩ : ∃ g, v = .slice (some ⟨g, 0, none⟩) 1 1 := hv
        simp only [Act.put, List.setIfInBounds_toArray, List.set_cons_zero, List.set_cons_succ]
        intro w3 U hb3 hF
        obtain ⟨_, _, _, _, _, hF⟩ := hF
        obtain ⟨gl', e0, BL, _⟩ : ∃ g, Value.slice (some ⟨gl, 0, none⟩) 1 1 = .slice (some ⟨g, 0, none⟩) 1 1 ∧ Box w3 g #[.int .i64 (topOf b p)] 3 ∧ _ := hF
        obtain rfl : gl = gl' := by simpa using e0
        clear e0 gA0 gA1 gA2 gA3 gA4 gA5 gC gp hbw g1
        have BA := BA.below hb3
        have BR := BR.below hb3
        have BC := BC.below hb3
        have acc := acc.below hb3
        have hb := bthen hb hb3
        have hs := Nat.le_trans hs hb3.size
        go_wp2_with (at_builtin; refine appR _ rfl (.tmp 24) (.tmp 32) 30 rfl (n0 + 1) 3 1 8 1 (.int .i64 0) Tryd.underlying30 inf_int rfl (by decide) (by decide) _ (topRows b k) (by rfl) acc _ [[.int .i64 (topOf b p)]] (by rfl) (rowAt_one (row := [.int .i64 (topOf b p)]) BL (by decide)) (by simp [Value.oneCell']) (by rw [HL.out]; simp; omega) hs ?_)
        intro v2 w4 acc2 hg _
        rw [← HT.out] at acc2
        obtain ⟨av2, cv2, rfl⟩ := acc2.shape
        rw [topRows_len (by omega)] at acc2 ⊢
        have hb2 := grown_below hb acc hg (by omega) (by omega)
        have hs2 := Nat.le_trans hs hg.size
        have BA2 := BA.keep (grown_block acc hg (by omega) BA.lt)
        have BR2 := BR.keep (grown_block acc hg (by omega) BR.lt)
        have BC2 := BC.keep (grown_block acc hg (by omega) BC.lt)
        clear acc hg BA BR BC hb hs BL hb3
        have q := BC2.cell
        have f := BC2.free
        go_wp2_with fail
        go_roundw
        case rel => exact ⟨k + 1, by omega, by go_num, hb2.setCell (by simp <;> omega) _, by simpa [size_setCell] using hs2, BA2.other _ (by simp <;> omega), BR2.other _ (by simp <;> omega), _, BC2.set 2 _, acc2.keep (fun j hj _ => heap_setCell_other _ _ _ _ (by simp <;> omega))⟩
        case measure => simp [intOf]; omega
      · have e : k = b.sites.length := by omega
        subst e
        rw [topRows_full] at acc
        have HII : Hid (∀ x ∈ topsL b, I64 x) := fun x hx => by
          obtain ⟨p, hp, rfl⟩ := List.mem_map.1 hx
          obtain ⟨i, hi⟩ := List.mem_iff_getElem?.1 hp
          exact AboveR.last64 HI.out (topOf_rel HD.out h8 (HU.out p hp)) (N3.out i p hi).1
        have q := BC.cell
        have q1 := BA.cell
        have q0 := BR.cell
        have f0 := BR.free
        go_wp2_with fail
        refine bodyPost_ret (v := .tuple #[.agg #[.int .i64 b.roots, .slice none 0 0, .slice av b.sites.length cv, .int .i64 0, .slice none 0 0, .slice none 0 0], .bool true]) (by simp [results, Tryd.results32, go_sem, q0]) rfl ⟨_, _, rfl, ⟨_, _, _, _, [], by simp [topsL], nds_none _ _, ⟨(acc.own.keep ?_).mono (by omega), ?_, HII.out⟩, strs_none _ _, wrs_none _ _, by unfold I64; dsimp only; omega, by unfold I64; dsimp only; omega, rfl⟩, ?_, ?_⟩
        · intro g hg; have := (acc.own.lt g hg); repeat rw [heap_setCell_other _ _ _ _ (by simp <;> omega)]
        · simp only [topsL, List.length_map]; omega
        · simpa [blks] using blks_nodup _ _ _
        · iterate 6 refine Below.setCell ?_ (by simp) _
          exact hb
end Go.Proofs.YtjkebiodabheiaaDoor
