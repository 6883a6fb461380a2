/- The inverse: the reference's. -/
import Derived.Test.YthbdmcobpcoajaaGreatDoorInvP
import Derived.BigRegion
namespace Go.Proofs.YthbdmcobpcoajaaGreatDoor
open Go Go.RowKit Go.BigFrame
theorem ints_flatV (l : List Int) : (intRows l).flatten = l.map (Value.int .i64) := by induction l <;> simp_all [intRows]
theorem made_zeros (n : Nat) : (madeCells #[.int .i64 0] n).toList = (intRows (List.replicate n 0)).flatten := by
  rw [ints_flatV, List.map_replicate]
  unfold madeCells
  rw [List.eq_replicate_iff]
  refine ⟨by simp, fun b hb => ?_⟩
  simp only [Array.toList_map, List.mem_map] at hb
  obtain ⟨k, _, rfl⟩ := hb
  simp [Nat.mod_one]
theorem made_zown {g n : Nat} {w : World} (hn : n ≤ 1073741824) (h : w.ownsRow g 3 1 (.slice (some ⟨g, 0, none⟩) n n) n (madeCells #[.int .i64 0] n).toList) : IntsOwn g w (.slice (some ⟨g, 0, none⟩) n n) (List.replicate n 0) := by
  refine ⟨RowOwn.of_owns (cs := intRows (List.replicate n 0)) (e := 3) (n := n) ?_ (by simp [intRows]) (by simp [intRows]), by simp; omega, fun x hx => by have := List.eq_of_mem_replicate hx; unfold I64; omega⟩
  rw [← made_zeros]
  exact h

theorem zeros_row {i R : Nat} (h : i < R) : (List.replicate R (0 : Int))[i]? = some 0 := by rw [List.getElem?_replicate, if_pos h]
set_option maxRecDepth 100000 in
set_option maxHeartbeats 8000000 in
theorem l3InvPerm_ct (v : Value) (sig : List Ctl) (b : Big) (w : World) (h : BigAt w v b) (hG : Good sig b) (hp : permB b = true) (hpos : 0 < b.roots) : Calls Tryz.prog 53 #[v] w fun e w' => ∃ u bs, e = .returned u ∧ BigOwn w.heap.size w' u (invR b) bs ∧ bs.Nodup ∧ Below w.heap.size w w' := by
  obtain ⟨R, hR⟩ : ∃ R : Nat, b.roots = R := ⟨b.roots.toNat, by omega⟩
  have hR4 : R ≤ 4 := by have := hG.bds.roots; omega
  have hnn : b.nodes.length = 0 := by
    unfold permB placingB at hp
    simp only [Bool.and_eq_true, decide_eq_true_eq] at hp
    exact hp.1.1
  have hsl : b.sites.length = R := by
    unfold permB at hp
    simp only [Bool.and_eq_true, decide_eq_true_eq] at hp
    have h3 := hp.2.2
    have h4 : (unders b).length = b.sites.length := by simp [unders]
    omega
  have HUN : Hid (∀ (k : Nat) y, b.sites[k]? = some y → ∃ t : Nat, -1 - y = t ∧ t < R ∧ (unders b)[k]? = some (t : Int)) := fun k y hy => by
    have h1 := hG.bds.site y (List.mem_of_getElem? hy)
    refine ⟨(-1 - y).toNat, by omega, by omega, ?_⟩
    have : (unders b)[k]? = some (-1 - y) := by simp [unders, hy]
    rw [this]; congr 1; omega
  have HSX : Hid (∀ k, k < R → ∃ y, b.sites[k]? = some y) := fun k hk => getElem?_of_lt (by omega)
  have HBD := Lib.hid (fun (k : Nat) (hk : k ≤ 1000) => invN_bd (unders b) (List.replicate R 0) (fun x hx => by have := List.eq_of_mem_replicate hx; omega) k hk)
  have HLEN : Hid (∀ k, (invN (unders b) (List.replicate R 0) k).length = R) := fun k => (invN_len (unders b) (List.replicate R 0) k).trans (by simp)
  have HINV : Hid (invR b = permP (invN (unders b) (List.replicate R 0) R)) := by
    show _ = _
    unfold invR
    rw [if_pos (by omega)]
    unfold invL
    rw [hR, Int.toNat_natCast]
  obtain ⟨a1, c1, a2, c2, a3, c3, a4, c4, e0, _, h2, _, _, _, _⟩ := h.parts
  rw [hR, hsl] at e0
  subst e0
  obtain ⟨_, _, es, _, _, Hs⟩ := h2.open
  obtain ⟨rfl, rfl⟩ := (by simpa using es : a2 = _ ∧ c2 = _)
  have HS := Lib.hid Hs
  obtain ⟨i0, hi, hz0, hz1, hz2⟩ := info_parts inf_int
  have hpR : (0 : Int) < (R : Int) := by omega
  clear h2 Hs es h hG hp hR hpos hnn hsl
  have BA0 : Box ((w.alloc (.cells #[.int .i64 (R : Int), .slice a1 b.nodes.length c1, .slice a2 R c2, .int .i64 b.edges, .slice a3 b.outer.length c3, .slice a4 b.inner.length c4] 34)).alloc (.cells #[.int .i64 0, .slice none 0 0, .slice none 0 0, .int .i64 0, .slice none 0 0, .slice none 0 0] 34)) w.heap.size #[.int .i64 (R : Int), .slice a1 b.nodes.length c1, .slice a2 R c2, .int .i64 b.edges, .slice a3 b.outer.length c3, .slice a4 b.inner.length c4] 34 := (Box.new _ _ _).alloc _
  have BR0 : Box ((w.alloc (.cells #[.int .i64 (R : Int), .slice a1 b.nodes.length c1, .slice a2 R c2, .int .i64 b.edges, .slice a3 b.outer.length c3, .slice a4 b.inner.length c4] 34)).alloc (.cells #[.int .i64 0, .slice none 0 0, .slice none 0 0, .int .i64 0, .slice none 0 0, .slice none 0 0] 34)) (w.heap.size + 1) #[.int .i64 0, .slice none 0 0, .slice none 0 0, .int .i64 0, .slice none 0 0, .slice none 0 0] 34 := Box.new' _ _ _ (by simp)
  have hb0 : Below w.heap.size w ((w.alloc (.cells #[.int .i64 (R : Int), .slice a1 b.nodes.length c1, .slice a2 R c2, .int .i64 b.edges, .slice a3 b.outer.length c3, .slice a4 b.inner.length c4] 34)).alloc (.cells #[.int .i64 0, .slice none 0 0, .slice none 0 0, .int .i64 0, .slice none 0 0, .slice none 0 0] 34)) := bthen (balloc _ _) (balloc _ _)
  rw [HINV.out]
  go_enter Tryz.func53, Tryz.ntmps53
  go_wp2_with (at_make; refine wpList_make_full _ rfl _ _ 24 rfl ((w.alloc (.cells #[.int .i64 (R : Int), .slice a1 b.nodes.length c1, .slice a2 R c2, .int .i64 b.edges, .slice a3 b.outer.length c3, .slice a4 b.inner.length c4] 34)).alloc (.cells #[.int .i64 0, .slice none 0 0, .slice none 0 0, .int .i64 0, .slice none 0 0, .slice none 0 0] 34)).heap.size 3 i0 (.int .i64 0) 1 Tryz.underlying24 hi hz0 hz1 _ _ _ _ R rfl rfl rfl rfl ?b1 ?b2 ?b3 ?_)
  case b1 => rw [hz2]; omega
  case b2 => unfold maxLen; omega
  case b3 => exact Nat.le_refl _
  intro w1 hown hgrow
  have own := made_zown (n := R) (by omega) hown
  have hb := hb0.grown hgrow hb0.size (fun _ h => by cases h)
  have BA := BA0.keep (hgrow.block _ BA0.lt (fun h => by cases h))
  have BR := BR0.keep (hgrow.block _ BR0.lt (fun h => by cases h))
  have hGe : ((w.alloc (.cells #[.int .i64 (R : Int), .slice a1 b.nodes.length c1, .slice a2 R c2, .int .i64 b.edges, .slice a3 b.outer.length c3, .slice a4 b.inner.length c4] 34)).alloc (.cells #[.int .i64 0, .slice none 0 0, .slice none 0 0, .int .i64 0, .slice none 0 0, .slice none 0 0] 34)).heap.size = w.heap.size + 2 := by simp
  obtain ⟨g0, eg, hm, _, _, _⟩ := own.slot (zeros_row (i := 0) (R := R) (by omega))
  have hOL := (own.lt g0 hm).2
  obtain rfl : ((w.alloc (.cells #[.int .i64 (R : Int), .slice a1 b.nodes.length c1, .slice a2 R c2, .int .i64 b.edges, .slice a3 b.outer.length c3, .slice a4 b.inner.length c4] 34)).alloc (.cells #[.int .i64 0, .slice none 0 0, .slice none 0 0, .int .i64 0, .slice none 0 0, .slice none 0 0] 34)).heap.size = g0 := by simpa using eg
  clear eg hm
  clear hb0 BA0 BR0
  obtain ⟨G, hG⟩ : ∃ G, G = w.heap.size + 1 + 1 := ⟨_, rfl⟩
  have hGw : w.heap.size + 2 ≤ G := by omega
  have hG2 : G < w1.heap.size := by rw [hG]; simpa using hOL
  rw [← hG] at own ⊢
  clear hown hgrow hi hz0 hz1 hz2 hGe hOL hG
  go_wp2_with fail
  go_loopw [4] (fun i W => ∃ k : Nat, k ≤ R ∧ i = .int .i64 k ∧ Below w.heap.size w W ∧ G < W.heap.size ∧ Box W w.heap.size #[.int .i64 (R : Int), .slice a1 b.nodes.length c1, .slice a2 R c2, .int .i64 b.edges, .slice a3 b.outer.length c3, .slice a4 b.inner.length c4] 34 ∧ Box W (w.heap.size + 1) #[.int .i64 0, .slice none 0 0, .slice none 0 0, .int .i64 0, .slice none 0 0, .slice none 0 0] 34 ∧ IntsOwn G W (.slice (some ⟨G, 0, none⟩) R R) (invN (unders b) (List.replicate R 0) k)) (fun i _ => R - (intOf i).toNat)
  case atStart => exact ⟨0, Nat.zero_le _, rfl, hb, hG2, BA, BR, own⟩
  case round =>
    clear hb hG2 BA BR own
    obtain ⟨k, hk, rfl, hb, hG2, BA, BR, own⟩ := hrel
    by_cases hlt : k < R
    · obtain ⟨y, hy⟩ : ∃ y, b.sites[k]? = some y := HSX.out k hlt
      obtain ⟨t, ht, htR, hu⟩ := HUN.out k y hy
      obtain ⟨_, ob, oo, rfl, hc⟩ := HS.out k y hy
      have hc := (hb.cell (World.block_lt_of_cell? w _ hc)).trans hc
      have HT := Lib.hid (invN_succ (z := List.replicate R 0) hu)
      obtain rfl : y = -1 - (t : Int) := by omega
      have e1 : -1 - (-1 - (t : Int)) = (t : Int) := by omega
      obtain ⟨z, hz⟩ := getElem?_of_lt (show t < (invN (unders b) (List.replicate R 0) k).length by rw [HLEN.out]; exact htR)
      obtain ⟨g', eg, hm, hcy, hfz, hst⟩ := own.slot hz
      obtain rfl : G = g' := by simpa using eg
      have hst := Lib.hid (hst (k : Int) (by unfold I64; omega))
      have q := BA.cell
      clear eg hm hy hu ht hz own
      go_wp2_with fail
      go_roundw
      case rel => exact ⟨k + 1, by omega, by go_num, hb.setCell (by show _ ≤ G; omega) _, by rw [size_setCell]; exact hG2, BA.other _ (by dsimp only; omega), BR.other _ (by dsimp only; omega), by rw [HT.out]; exact hst.out⟩
      case measure => simp [intOf]; omega
    · have e : k = R := by omega
      subst e
      have q := BA.cell
      have hx := HBD.out k (by omega)
      have hcp := l3Permutation_ct (invN (unders b) (List.replicate k 0) k) _ wr own.at (by rw [HLEN.out]; exact hR4) hx
      have HP := Lib.hid hcp
      clear hcp hx
      go_wp2_with fail
      refine HP.out.mono ?_
      rintro e w3 ⟨u, bs, rfl, hB, hN, b3⟩
      obtain ⟨d1, e1, d2, e2, d3, e3, d4, e4, rfl⟩ := hB.at.shape
      have BR := BR.below b3
      have hs1 := hb.size
      have hB : BigOwn (w.heap.size + 2) w3 _ (permP (invN (unders b) (List.replicate k 0) k)) bs := hB.mono (by omega)
      have hb := bthen hb b3
      have q2 := BR.cell
      have ff := BR.free
      clear q own HP
      go_wp2_with fail
      refine bodyPost_ret (v := .agg #[.int .i64 (permP (invN (unders b) (List.replicate k 0) k)).roots, .slice d1 (permP (invN (unders b) (List.replicate k 0) k)).nodes.length e1, .slice d2 (permP (invN (unders b) (List.replicate k 0) k)).sites.length e2, .int .i64 (permP (invN (unders b) (List.replicate k 0) k)).edges, .slice d3 (permP (invN (unders b) (List.replicate k 0) k)).outer.length e3, .slice d4 (permP (invN (unders b) (List.replicate k 0) k)).inner.length e4]) (by simp [results, Tryz.results53, go_sem, q2]) rfl ⟨_, bs, rfl, (fill6 hB (by omega) _ _ _ _ _ _).mono (by omega), hN, fill6b hb (by omega) _ _ _ _ _ _⟩
theorem from_size {w : World} {v : Value} {b : Big} (h : WrsAt w v b.inner) : ∀ s ∈ fromL b, s.size ≤ 1073741824 := by
  intro s hs
  obtain ⟨i, hi, rfl⟩ := List.mem_map.1 hs
  rw [List.getD_eq_getElem?_getD]
  cases hq : (endsL b ((i : Nat) : Int))[0]? with
  | none => show (⟨#[]⟩ : ByteArray).size ≤ _; decide
  | some x =>
    obtain ⟨y, hy, rfl⟩ := endsN_mem (b := b) (link := ((i : Nat) : Int)) (k := b.inner.length) (s := x) (List.mem_of_getElem? hq)
    exact (h.2 y hy).1
theorem fromT (b : Big) {k : Nat} {s : ByteArray} (hk : k < b.outer.length) (hs : endsL b (k : Int) = [s]) : strRows ((fromL b).take (k + 1)) = strRows ((fromL b).take k) ++ [[.string s]] := by
  have h := fromL_get hk
  rw [hs] at h
  rw [take_snoc_l h]
  simp [strRows]
theorem fromL_rows (b : Big) {k : Nat} (hk : k ≤ b.outer.length) : (strRows ((fromL b).take k)).length = k := by
  rw [len_strRows, List.length_take, fromL_len]; omega
set_option maxRecDepth 100000 in
set_option maxHeartbeats 8000000 in
theorem l3InvRen_ct (v : Value) (sig : List Ctl) (b : Big) (w : World) (h : BigAt w v b) (hG : Good sig b) (hro : b.roots = 0) (hone : ∀ k : Nat, k < b.outer.length → ∃ s, endsL b (k : Int) = [s]) : Calls Tryz.prog 53 #[v] w fun e w' => ∃ u bs, e = .returned u ∧ BigOwn w.heap.size w' u (invR b) bs ∧ bs.Nodup ∧ Below w.heap.size w w' := by
  have HINV : Hid (invR b = subBig b.outer (fromL b)) := by show _ = _; unfold invR; rw [if_neg (by omega)]
  have HONE := Lib.hid hone
  have hD := hG.bds
  have hol := hD.outer
  have hil := hD.inner
  obtain ⟨a1, c1, a2, c2, a3, c3, a4, c4, e0, _, _, h3, h4, _, _⟩ := h.parts
  rw [hro] at e0
  subst e0
  have HBIG := Lib.hid h
  have HO := Lib.hid h3
  have HFS := Lib.hid (from_size h4)
  clear hD hG h h3 h4 hro hone
  obtain ⟨W0, hW0⟩ : ∃ W, W = (w.alloc (.cells #[.int .i64 0, .slice a1 b.nodes.length c1, .slice a2 b.sites.length c2, .int .i64 b.edges, .slice a3 b.outer.length c3, .slice a4 b.inner.length c4] 34)).alloc (.cells #[.int .i64 0, .slice none 0 0, .slice none 0 0, .int .i64 0, .slice none 0 0, .slice none 0 0] 34) := ⟨_, rfl⟩
  have BA : Box W0 w.heap.size #[.int .i64 0, .slice a1 b.nodes.length c1, .slice a2 b.sites.length c2, .int .i64 b.edges, .slice a3 b.outer.length c3, .slice a4 b.inner.length c4] 34 := by rw [hW0]; exact (Box.new _ _ _).alloc _
  have BR : Box W0 (w.heap.size + 1) #[.int .i64 0, .slice none 0 0, .slice none 0 0, .int .i64 0, .slice none 0 0, .slice none 0 0] 34 := by rw [hW0]; exact Box.new' _ _ _ (by simp)
  have hb : Below w.heap.size w W0 := by rw [hW0]; exact bthen (balloc _ _) (balloc _ _)
  have hsz : w.heap.size + 2 ≤ W0.heap.size := by rw [hW0]; simp
  rw [HINV.out]
  obtain ⟨g1, hg1⟩ : ∃ g, g = w.heap.size + 1 + 1 := ⟨_, rfl⟩
  have hw2 : W0.heap.size = g1 := by rw [hW0, hg1]; simp
  obtain ⟨W4, hW4⟩ : ∃ W, W = W0.alloc (.cells #[] 9) := ⟨_, rfl⟩
  have b4 : Below W0.heap.size W0 W4 := by rw [hW4]; exact balloc _ _
  have acc : Acc W4 (w.heap.size + 2) 9 1 (.slice (some ⟨g1, 0, none⟩) 0 0) (strRows ((fromL b).take 0)) := by rw [hW4, ← hw2]; simpa [strRows] using Acc.lit0 W0 (w.heap.size + 2) 9 1 hsz
  go_enter Tryz.func53, Tryz.ntmps53
  go_wp2_with fail
  first | rw [← hW0, ← hW4, ← hg1] | fail "world"
  have BA := BA.below b4
  have BR := BR.below b4
  have hb := bthen hb b4
  have hsz := Nat.le_trans hsz b4.size
  clear hW0 hW4 hw2 hg1 b4
  go_loopw [5, 6] (fun o i W => ∃ k : Nat, k ≤ b.outer.length ∧ i = .int .i64 k ∧ Below w.heap.size w W ∧ w.heap.size + 2 ≤ W.heap.size ∧ Box W w.heap.size #[.int .i64 0, .slice a1 b.nodes.length c1, .slice a2 b.sites.length c2, .int .i64 b.edges, .slice a3 b.outer.length c3, .slice a4 b.inner.length c4] 34 ∧ Box W (w.heap.size + 1) #[.int .i64 0, .slice none 0 0, .slice none 0 0, .int .i64 0, .slice none 0 0, .slice none 0 0] 34 ∧ Acc W (w.heap.size + 2) 9 1 o (strRows ((fromL b).take k))) (fun _ i _ => b.outer.length - (intOf i).toNat)
  case atStart => exact ⟨0, Nat.zero_le _, rfl, hb, hsz, BA, BR, acc⟩
  case round =>
    clear hb hsz BA BR acc
    obtain ⟨k, hk, rfl, hb, hsz, BA, BR, acc⟩ := hrel
    obtain ⟨av, cv, rfl⟩ := acc.shape
    have HL : Hid ((strRows ((fromL b).take k)).length = k) := fromL_rows b hk
    rw [HL.out] at acc ⊢
    by_cases hlt : k < b.outer.length
    · obtain ⟨s, hs⟩ := HONE.out k hlt
      have HT := Lib.hid (fromT b hlt hs)
      have HC := Lib.hid (l2Ends_ct _ b (k : Int) wr (HBIG.out.below hb) hil (by unfold I64; omega))
      rw [hs] at HC
      have q := BA.cell
      clear hs
      go_wp2_with fail
      refine HC.out.mono ?_
      rintro e w2 ⟨u, rfl, hu, b2⟩
      obtain ⟨ua, uc, rfl, _, _, Hu⟩ := hu.at.open
      obtain ⟨_, ob, oo, rfl, hcy⟩ := Hu 0 s rfl
      rw [Nat.add_zero] at hcy
      have acc := acc.below b2
      have BA := BA.below b2
      have BR := BR.below b2
      have hb := bthen hb b2
      have hsz := Nat.le_trans hsz b2.size
      clear q HC hu b2 Hu
      rw [show [s].length = 1 from rfl]
      go_wp2_with (at_builtin; refine app1 _ rfl (.tmp 38) (.tmp 44) 25 rfl (w.heap.size + 2) 9 1 16 (.string ⟨#[]⟩) Tryz.underlying25 inf_str rfl (by decide) (by decide) _ (strRows ((fromL b).take k)) rfl acc [.string s] _ rfl (by simp [Value.oneCell']) rfl (by rw [HL.out]; omega) hsz ?_)
      intro g c2 w3 acc2 hg
      rw [HL.out, ← HT.out] at acc2
      rw [HL.out]
      have hb3 := grown_below hb acc hg (by omega) (by omega)
      have hs3 : w.heap.size + 2 ≤ w3.heap.size := Nat.le_trans hsz hg.size
      have BA3 := BA.keep (grown_block acc hg (by omega) BA.lt)
      have BR3 := BR.keep (grown_block acc hg (by omega) BR.lt)
      clear acc hg BA BR hb hsz hcy
      go_wp2_with fail
      go_roundw
      case rel => exact ⟨k + 1, by omega, by go_num, hb3, hs3, BA3, BR3, acc2⟩
      case measure => simp [intOf]; omega
    · have e : k = b.outer.length := by omega
      subst e
      have hT : (fromL b).take b.outer.length = fromL b := List.take_of_length_le (by rw [fromL_len]; exact Nat.le_refl _)
      rw [hT] at acc
      have hf : StrsAt wr (.slice av b.outer.length cv) (fromL b) := ⟨acc.own.row (by rw [len_strRows, fromL_len]; omega), HFS.out⟩
      have HP := Lib.hid (l3Substitution_ct (.slice a3 b.outer.length c3) _ b.outer (fromL b) wr (HO.out.below hb) hf hol (fromL_len b))
      have q := BA.cell
      clear hf hT acc
      go_wp2_with fail
      refine HP.out.mono ?_
      rintro e w3 ⟨u, bs, rfl, hB, hN, b3⟩
      obtain ⟨d1, e1, d2, e2, d3, e3, d4, e4, rfl⟩ := hB.at.shape
      have BR := BR.below b3
      have hB : BigOwn (w.heap.size + 2) w3 _ (subBig b.outer (fromL b)) bs := hB.mono hsz
      have hb := bthen hb b3
      have q2 := BR.cell
      have ff := BR.free
      clear q HP
      go_wp2_with fail
      refine bodyPost_ret (v := .agg #[.int .i64 (subBig b.outer (fromL b)).roots, .slice d1 (subBig b.outer (fromL b)).nodes.length e1, .slice d2 (subBig b.outer (fromL b)).sites.length e2, .int .i64 (subBig b.outer (fromL b)).edges, .slice d3 (subBig b.outer (fromL b)).outer.length e3, .slice d4 (subBig b.outer (fromL b)).inner.length e4]) (by simp [results, Tryz.results53, go_sem, q2]) rfl ⟨_, bs, rfl, (fill6 hB (by omega) _ _ _ _ _ _).mono (by omega), hN, fill6b hb (by omega) _ _ _ _ _ _⟩
theorem l3Inverse_ct (v : Value) (sig : List Ctl) (b : Big) (w : World) (h : BigAt w v b) (hG : Good sig b) (hr : permB b = true ∨ renmB b = true) : Calls Tryz.prog 53 #[v] w fun e w' => ∃ u bs, e = .returned u ∧ BigOwn w.heap.size w' u (invR b) bs ∧ bs.Nodup ∧ Below w.heap.size w w' := by
  have hro := hG.bds.roots
  by_cases hpos : 0 < b.roots
  · rcases hr with hr | hr
    · exact l3InvPerm_ct v sig b w h hG hr hpos
    · exact absurd (ren_edges hr).2 (by omega)
  · refine l3InvRen_ct v sig b w h hG (by omega) fun k hk => ?_
    rcases hr with hr | hr
    · exfalso
      unfold permB placingB at hr
      simp only [Bool.and_eq_true, decide_eq_true_eq] at hr
      omega
    · exact ren_one hG hr hk
set_option maxRecDepth 100000 in
set_option maxHeartbeats 8000000 in
theorem specInverseOf_ct (vs v : Value) (sig : List Ctl) (b : Big) (w : World) (h : Ctx w vs v sig b) : Calls Tryz.prog 15 #[vs, v] w (GivesBig (invP sig b) (invC sig b) w) := by
  obtain ⟨a1, c1, a2, c2, a3, c3, a4, c4, rfl⟩ := h.big.shape
  have hA := bthen (balloc w (.cells #[.int .i64 b.roots, .slice a1 b.nodes.length c1, .slice a2 b.sites.length c2, .int .i64 b.edges, .slice a3 b.outer.length c3, .slice a4 b.inner.length c4] 34)) (balloc (w.alloc (.cells #[.int .i64 b.roots, .slice a1 b.nodes.length c1, .slice a2 b.sites.length c2, .int .i64 b.edges, .slice a3 b.outer.length c3, .slice a4 b.inner.length c4] 34)) (.cells #[.int .i64 0, .slice none 0 0, .slice none 0 0, .int .i64 0, .slice none 0 0, .slice none 0 0] 34))
  obtain ⟨W0, hW0⟩ : ∃ W, W = (w.alloc (.cells #[.int .i64 b.roots, .slice a1 b.nodes.length c1, .slice a2 b.sites.length c2, .int .i64 b.edges, .slice a3 b.outer.length c3, .slice a4 b.inner.length c4] 34)).alloc (.cells #[.int .i64 0, .slice none 0 0, .slice none 0 0, .int .i64 0, .slice none 0 0, .slice none 0 0] 34) := ⟨_, rfl⟩
  have BA : Box W0 w.heap.size #[.int .i64 b.roots, .slice a1 b.nodes.length c1, .slice a2 b.sites.length c2, .int .i64 b.edges, .slice a3 b.outer.length c3, .slice a4 b.inner.length c4] 34 := by rw [hW0]; exact (Box.new _ _ _).alloc _
  have BR : Box W0 (w.heap.size + 1) #[.int .i64 0, .slice none 0 0, .slice none 0 0, .int .i64 0, .slice none 0 0, .slice none 0 0] 34 := by rw [hW0]; exact Box.new' _ _ _ (by simp)
  have hs0 : w.heap.size + 2 ≤ W0.heap.size := by rw [hW0]; simp
  rw [← hW0] at hA
  cases hg : goodB sig b with
  | false =>
    have hC : invC sig b = false := by unfold invC; rw [hg]; rfl
    rw [inv_no hC, hC]
    clear hC
    go_enter Tryz.func15, Tryz.ntmps15
    go_wp2_with fail
    rw [← hW0]
    clear hW0
    refine (l2Good_ct _ _ sig b false _ (h.below hA) hg).mono ?_
    rintro e w2 ⟨rfl, hb⟩
    have BA := BA.below hb
    have BR := BR.below hb
    have hs1 := hb.size
    have hb := bthen hA hb
    have q := BR.cell
    have f := BR.free
    go_wp2_with fail
    refine bodyPost_ret (v := .tuple #[.agg #[.int .i64 0, .slice none 0 0, .slice none 0 0, .int .i64 0, .slice none 0 0, .slice none 0 0], .bool false]) (by simp [results, Tryz.results15, go_sem, q]) rfl ⟨_, _, rfl, noBig_own _ _, by simp, ?_⟩
    iterate 6 refine Below.setCell ?_ (by simp) _
    exact hb
  | true =>
    have hG := good_of hg
    have hro := hG.roots
    have hs4 := hG.sites
    have HG := Lib.hid hG
    have HBIG := Lib.hid h.big
    cases hp : permB b with
    | true =>
      have hC : invC sig b = true := by unfold invC; rw [hg, hp]; rfl
      rw [inv_yes hC, hC]
      have HOR : Hid (permB b = true ∨ renmB b = true) := .inl hp
      clear hC
      go_enter Tryz.func15, Tryz.ntmps15
      go_wp2_with fail
      rw [← hW0]
      clear hW0
      refine (l2Good_ct _ _ sig b true _ (h.below hA) hg).mono ?_
      rintro e w2 ⟨rfl, hb⟩
      have BA := BA.below hb
      have BR := BR.below hb
      have hs1 := hb.size
      have hb := bthen hA hb
      clear hg
      have q := BA.cell
      go_wp2_with fail
      clear q
      refine (l3Permutes_ct _ b true _ (HBIG.out.below hb) hro hs4 hp).mono ?_
      rintro e w3 ⟨rfl, hb3⟩
      have BA := BA.below hb3
      have BR := BR.below hb3
      have hs1 := Nat.le_trans hs1 hb3.size
      have hb := bthen hb hb3
      clear hb3
      have q := BA.cell
      clear hG
      go_wp2_with fail
      clear q
      refine (l3Inverse_ct _ sig b _ (HBIG.out.below hb) HG.out HOR.out).mono ?_
      rintro e w7 ⟨u7, bs7, rfl, hB7, hN7, hb7⟩
      obtain ⟨d1, e1, d2, e2, d3, e3, d4, e4, rfl⟩ := hB7.at.shape
      have BR := BR.below hb7
      have hB7 := hB7.mono (B' := w.heap.size + 2) (Nat.le_trans hs0 hs1)
      have hb := bthen hb hb7
      have q2 := BR.cell
      have ff := BR.free
      go_wp2_with fail
      refine bodyPost_ret (v := .tuple #[.agg #[.int .i64 (invR b).roots, .slice d1 (invR b).nodes.length e1, .slice d2 (invR b).sites.length e2, .int .i64 (invR b).edges, .slice d3 (invR b).outer.length e3, .slice d4 (invR b).inner.length e4], .bool true]) (by simp [results, Tryz.results15, go_sem, q2]) rfl ⟨_, bs7, rfl, (fill6 hB7 (by omega) _ _ _ _ _ _).mono (by omega), hN7, fill6b hb (by omega) _ _ _ _ _ _⟩
    | false =>
      cases hn : renmB b with
      | true =>
        have hC : invC sig b = true := by unfold invC; rw [hg, hp, hn]; rfl
        rw [inv_yes hC, hC]
        have HOR : Hid (permB b = true ∨ renmB b = true) := .inr hn
        clear hC
        go_enter Tryz.func15, Tryz.ntmps15
        go_wp2_with fail
        rw [← hW0]
        clear hW0
        refine (l2Good_ct _ _ sig b true _ (h.below hA) hg).mono ?_
        rintro e w2 ⟨rfl, hb⟩
        have BA := BA.below hb
        have BR := BR.below hb
        have hs1 := hb.size
        have hb := bthen hA hb
        clear hg
        have q := BA.cell
        go_wp2_with fail
        clear q
        refine (l3Permutes_ct _ b false _ (HBIG.out.below hb) hro hs4 hp).mono ?_
        rintro e w3 ⟨rfl, hb3⟩
        have BA := BA.below hb3
        have BR := BR.below hb3
        have hs1 := Nat.le_trans hs1 hb3.size
        have hb := bthen hb hb3
        clear hb3
        have q := BA.cell
        go_wp2_with fail
        clear q
        refine (l3Renames_ct _ sig b true _ (HBIG.out.below hb) HG.out hn).mono ?_
        rintro e w4 ⟨rfl, hb4⟩
        have BA := BA.below hb4
        have BR := BR.below hb4
        have hs1 := Nat.le_trans hs1 hb4.size
        have hb := bthen hb hb4
        clear hb4
        have q := BA.cell
        clear hG
        go_wp2_with fail
        clear q
        refine (l3Inverse_ct _ sig b _ (HBIG.out.below hb) HG.out HOR.out).mono ?_
        rintro e w7 ⟨u7, bs7, rfl, hB7, hN7, hb7⟩
        obtain ⟨d1, e1, d2, e2, d3, e3, d4, e4, rfl⟩ := hB7.at.shape
        have BR := BR.below hb7
        have hB7 := hB7.mono (B' := w.heap.size + 2) (Nat.le_trans hs0 hs1)
        have hb := bthen hb hb7
        have q2 := BR.cell
        have ff := BR.free
        go_wp2_with fail
        refine bodyPost_ret (v := .tuple #[.agg #[.int .i64 (invR b).roots, .slice d1 (invR b).nodes.length e1, .slice d2 (invR b).sites.length e2, .int .i64 (invR b).edges, .slice d3 (invR b).outer.length e3, .slice d4 (invR b).inner.length e4], .bool true]) (by simp [results, Tryz.results15, go_sem, q2]) rfl ⟨_, bs7, rfl, (fill6 hB7 (by omega) _ _ _ _ _ _).mono (by omega), hN7, fill6b hb (by omega) _ _ _ _ _ _⟩
      | false =>
        have hC : invC sig b = false := by unfold invC; rw [hg, hp, hn]; rfl
        rw [inv_no hC, hC]
        clear hC
        go_enter Tryz.func15, Tryz.ntmps15
        go_wp2_with fail
        rw [← hW0]
        clear hW0
        refine (l2Good_ct _ _ sig b true _ (h.below hA) hg).mono ?_
        rintro e w2 ⟨rfl, hb⟩
        have BA := BA.below hb
        have BR := BR.below hb
        have hs1 := hb.size
        have hb := bthen hA hb
        clear hg
        have q := BA.cell
        go_wp2_with fail
        clear q
        refine (l3Permutes_ct _ b false _ (HBIG.out.below hb) hro hs4 hp).mono ?_
        rintro e w3 ⟨rfl, hb3⟩
        have BA := BA.below hb3
        have BR := BR.below hb3
        have hs1 := Nat.le_trans hs1 hb3.size
        have hb := bthen hb hb3
        clear hb3
        have q := BA.cell
        go_wp2_with fail
        clear q
        refine (l3Renames_ct _ sig b false _ (HBIG.out.below hb) HG.out hn).mono ?_
        rintro e w4 ⟨rfl, hb4⟩
        have BA := BA.below hb4
        have BR := BR.below hb4
        have hs1 := Nat.le_trans hs1 hb4.size
        have hb := bthen hb hb4
        clear hb4
        have q := BR.cell
        have f := BR.free
        go_wp2_with fail
        refine bodyPost_ret (v := .tuple #[.agg #[.int .i64 0, .slice none 0 0, .slice none 0 0, .int .i64 0, .slice none 0 0, .slice none 0 0], .bool false]) (by simp [results, Tryz.results15, go_sem, q]) rfl ⟨_, _, rfl, noBig_own _ _, by simp, ?_⟩
        iterate 6 refine Below.setCell ?_ (by simp) _
        exact hb
end Go.Proofs.YthbdmcobpcoajaaGreatDoor
