/- The inverse: the program's. -/
import Derived.Test.YthbdmcobpcoajaaGreatDoorInvS
import Derived.Test.YthbdmcobpcoajaaGreatDoorPoints2
import Derived.Test.YthbdmcobpcoajaaGreatDoorG4
namespace Go.Proofs.YthbdmcobpcoajaaGreatDoor
open Go Go.RowKit Go.BigFrame
set_option maxRecDepth 100000 in
set_option maxHeartbeats 8000000 in
theorem implInvPerm_ct (vs v : Value) (sig : List Ctl) (b : Big) (w : World) (h : Ctx w vs v sig b) (hg : goodB sig b = true) (hp : permB b = true) : Calls Tryz.prog 18 #[vs, v] w (GivesBig (invR b) true w) := by
  have hG := good_of hg
  have hgp : (goodB sig b && permB b) = true := by rw [hg, hp]; rfl
  have hrr := hG.bds.roots
  obtain ⟨R, hR⟩ : ∃ R : Nat, b.roots = R := ⟨b.roots.toNat, by omega⟩
  have hR4 : R ≤ 4 := by have := hG.bds.roots; omega
  have hnn : b.nodes.length = 0 := by
    unfold permB placingB at hp
    simp only [Bool.and_eq_true, decide_eq_true_eq] at hp
    exact hp.1.1
  have hsl : b.sites.length = R := by
    unfold permB at hp
    simp only [Bool.and_eq_true, decide_eq_true_eq] at hp
    have h3 := hp.2.2
    have h4 : (unders b).length = b.sites.length := by simp [unders]
    omega
  have HUN : Hid (∀ (k : Nat) y, b.sites[k]? = some y → ∃ t : Nat, -1 - y = t ∧ t < R ∧ (unders b)[k]? = some (t : Int)) := fun k y hy => by
    have h1 := hG.bds.site y (List.mem_of_getElem? hy)
    refine ⟨(-1 - y).toNat, by omega, by omega, ?_⟩
    have : (unders b)[k]? = some (-1 - y) := by simp [unders, hy]
    rw [this]; congr 1; omega
  have HSX : Hid (∀ k, k < R → ∃ y, b.sites[k]? = some y) := fun k hk => getElem?_of_lt (by omega)
  have HBD := Lib.hid (fun (k : Nat) (hk : k ≤ 1000) => invN_bd (unders b) (List.replicate R 0) (fun x hx => by have := List.eq_of_mem_replicate hx; omega) k hk)
  have HLEN : Hid (∀ k, (invN (unders b) (List.replicate R 0) k).length = R) := fun k => (invN_len (unders b) (List.replicate R 0) k).trans (by simp)
  have HINV : Hid (invR b = permP (invN (unders b) (List.replicate R 0) R)) := by
    show _ = _
    by_cases h0 : R = 0
    · subst h0; rw [inv_empty (sig := sig) hp (by omega)]; rfl
    · unfold invR
      rw [if_pos (by omega)]
      unfold invL
      rw [hR, Int.toNat_natCast]
  obtain ⟨a1, c1, a2, c2, a3, c3, a4, c4, e0, _, h2, _, _, _, _⟩ := h.big.parts
  rw [hR, hsl] at e0
  subst e0
  obtain ⟨i0, hi, hz0, hz1, hz2⟩ := info_parts inf_int
  obtain ⟨W0, hW0⟩ : ∃ W, W = (w.alloc (.cells #[.int .i64 (R : Int), .slice a1 b.nodes.length c1, .slice a2 R c2, .int .i64 b.edges, .slice a3 b.outer.length c3, .slice a4 b.inner.length c4] 34)).alloc (.cells #[.int .i64 0, .slice none 0 0, .slice none 0 0, .int .i64 0, .slice none 0 0, .slice none 0 0] 34) := ⟨_, rfl⟩
  have BA : Box W0 w.heap.size #[.int .i64 (R : Int), .slice a1 b.nodes.length c1, .slice a2 R c2, .int .i64 b.edges, .slice a3 b.outer.length c3, .slice a4 b.inner.length c4] 34 := by rw [hW0]; exact (Box.new _ _ _).alloc _
  have BR : Box W0 (w.heap.size + 1) #[.int .i64 0, .slice none 0 0, .slice none 0 0, .int .i64 0, .slice none 0 0, .slice none 0 0] 34 := by rw [hW0]; exact Box.new' _ _ _ (by simp)
  have hA : Below w.heap.size w W0 := by rw [hW0]; exact bthen (balloc _ _) (balloc _ _)
  have HIP := Lib.hid (implIsPermutation_ct _ _ sig b true _ (h.below hA) hgp)
  have HUD := Lib.hid (fun W (hb : Below w.heap.size w W) => under_ct _ b W (h.big.below hb) (by omega) (fun x hx => by have := hG.bds.site x hx; omega))
  have hul : (unders b).length = R := by simp [unders, hsl]
  have HUL := Lib.hid hul
  clear h2 h hG hp hgp hR hnn hsl hg hul
  rw [HINV.out]
  go_enter Tryz.func18, Tryz.ntmps18
  go_wp2_with fail
  rw [← hW0]
  clear hW0
  refine HIP.out.mono ?_
  rintro e w2 ⟨rfl, hb⟩
  have BA0 := BA.below hb
  have BR0 := BR.below hb
  have hb0 := bthen hA hb
  clear HIP BA BR hA hb
  have q := BA0.cell
  go_wp2_with (at_make; refine wpList_make_full _ rfl _ _ 24 rfl w2.heap.size 3 i0 (.int .i64 0) 1 Tryz.underlying24 hi hz0 hz1 _ _ _ _ R rfl rfl rfl rfl ?b1 ?b2 ?b3 ?_)
  case b1 => rw [hz2]; omega
  case b2 => unfold maxLen; omega
  case b3 => exact Nat.le_refl _
  intro w3 hown hgrow
  have own := made_zown (n := R) (by omega) hown
  obtain ⟨G, hG⟩ : ∃ G, G = w2.heap.size := ⟨_, rfl⟩
  rw [← hG] at own ⊢
  have hGw : w.heap.size + 2 ≤ G := by have := BR0.lt; omega
  have hGN : 0 < R → G < w3.heap.size := fun hp => by
    obtain ⟨g0, eg, hm, _, _, _⟩ := own.slot (zeros_row hp)
    obtain rfl : G = g0 := by simpa using eg
    exact (own.lt G hm).2
  have hb := hb0.grown hgrow hb0.size (fun _ h => by cases h)
  have BA := BA0.keep (hgrow.block _ BA0.lt (fun h => by cases h))
  have BR := BR0.keep (hgrow.block _ BR0.lt (fun h => by cases h))
  clear q hb0 BA0 BR0 hown hgrow hi hz0 hz1 hz2 hG
  have q := BA.cell
  go_wp2_with fail
  clear q
  refine (HUD.out _ hb).mono ?_
  rintro e w4 ⟨u, rfl, hu, b4⟩
  obtain ⟨n1, hn1⟩ : ∃ n, n = w3.heap.size := ⟨_, rfl⟩
  rw [← hn1] at hu hGN
  have own := own.keep (keep_below b4 (fun p hp => (own.lt p hp).2))
  have BA := BA.below b4
  have BR := BR.below b4
  have hb := bthen hb b4
  obtain ⟨ua, uc, rfl⟩ := hu.shp
  rw [HUL.out]
  rw [HUL.out] at hu
  have HGN := Lib.hid hGN
  clear b4 hn1 hGN HUD
  go_wp2_with fail
  go_loopw [24, 7, 8] (fun i _ _ W => ∃ k : Nat, k ≤ R ∧ i = .int .i64 k ∧ Below w.heap.size w W ∧ Box W w.heap.size #[.int .i64 (R : Int), .slice a1 b.nodes.length c1, .slice a2 R c2, .int .i64 b.edges, .slice a3 b.outer.length c3, .slice a4 b.inner.length c4] 34 ∧ Box W (w.heap.size + 1) #[.int .i64 0, .slice none 0 0, .slice none 0 0, .int .i64 0, .slice none 0 0, .slice none 0 0] 34 ∧ IntsOwn n1 W (.slice ua R uc) (unders b) ∧ IntsOwn G W (.slice (some ⟨G, 0, none⟩) R R) (invN (unders b) (List.replicate R 0) k)) (fun i _ _ _ => R - (intOf i).toNat)
  case atStart => exact ⟨0, Nat.zero_le _, rfl, hb, BA, BR, hu, own⟩
  case round =>
    clear hb BA BR own hu
    obtain ⟨k, hk, rfl, hb, BA, BR, hu, own⟩ := hrel
    by_cases hlt : k < R
    · obtain ⟨y, hy⟩ : ∃ y, b.sites[k]? = some y := HSX.out k hlt
      obtain ⟨t, ht, htR, hut⟩ := HUN.out k y hy
      have hgn := HGN.out (by omega)
      obtain ⟨gu, rfl, hum, huc, _, _⟩ := hu.slot hut
      have hul := hu.lt gu hum
      have HT := Lib.hid (invN_succ (z := List.replicate R 0) hut)
      obtain ⟨z, hz⟩ := getElem?_of_lt (show t < (invN (unders b) (List.replicate R 0) k).length by rw [HLEN.out]; exact htR)
      obtain ⟨g', eg, hm, hcy, hfz, hst⟩ := own.slot hz
      obtain rfl : G = g' := by simpa using eg
      have hst := Lib.hid (hst (k : Int) (by unfold I64; omega))
      have huk : ∀ q ∈ blks (.slice (some ⟨gu, 0, none⟩) R uc), q ≠ G := fun q hq => by have := (hu.lt q hq).1; omega
      have hu := Lib.hid (hu.keep (w' := wr.setCell ⟨G, t, none⟩ (.int .i64 (k : Int))) (keep_setCell (fun h => huk _ h rfl)))
      have q := BA.cell
      clear eg hm hy hut ht hz own huk
      go_wp2_with fail
      go_roundw
      case rel => exact ⟨k + 1, by omega, by go_num, hb.setCell (by show _ ≤ G; omega) _, BA.other _ (by dsimp only; omega), BR.other _ (by dsimp only; omega), hu.out, by rw [HT.out]; exact hst.out⟩
      case measure => simp [intOf]; omega
    · have e : k = R := by omega
      subst e
      have hx := HBD.out k (by omega)
      have hcp := permutation_ct (invN (unders b) (List.replicate k 0) k) _ wr own.at (by rw [HLEN.out]; exact hR4) hx
      have HP := Lib.hid hcp
      clear hcp hx
      go_wp2_with fail
      refine HP.out.mono ?_
      rintro e w5 ⟨u, bs, rfl, hB, hN, b3⟩
      obtain ⟨d1, e1, d2, e2, d3, e3, d4, e4, rfl⟩ := hB.at.shape
      have hs1 := BR.lt
      have BR := BR.below b3
      have hB : BigOwn (w.heap.size + 2) w5 _ (permP (invN (unders b) (List.replicate k 0) k)) bs := hB.mono (by omega)
      have hb := bthen hb b3
      have q2 := BR.cell
      have ff := BR.free
      clear own HP
      go_wp2_with fail
      refine bodyPost_ret (v := .tuple #[.agg #[.int .i64 (permP (invN (unders b) (List.replicate k 0) k)).roots, .slice d1 (permP (invN (unders b) (List.replicate k 0) k)).nodes.length e1, .slice d2 (permP (invN (unders b) (List.replicate k 0) k)).sites.length e2, .int .i64 (permP (invN (unders b) (List.replicate k 0) k)).edges, .slice d3 (permP (invN (unders b) (List.replicate k 0) k)).outer.length e3, .slice d4 (permP (invN (unders b) (List.replicate k 0) k)).inner.length e4], .bool true]) (by simp [results, Tryz.results18, go_sem, q2]) rfl ⟨_, bs, rfl, (fill6 hB (by omega) _ _ _ _ _ _).mono (by omega), hN, fill6b hb (by omega) _ _ _ _ _ _⟩
set_option maxRecDepth 100000 in
set_option maxHeartbeats 8000000 in
theorem implInvRen_ct (vs v : Value) (sig : List Ctl) (b : Big) (w : World) (h : Ctx w vs v sig b) (hg : goodB sig b = true) (hp : permB b = false) (hn : renmB b = true) : Calls Tryz.prog 18 #[vs, v] w (GivesBig (invR b) true w) := by
  have hG := good_of hg
  have hD := hG.bds
  have hgp : (goodB sig b && permB b) = false := by rw [hg, hp]; rfl
  have hgn : (goodOB sig b && hasOneB b) = true := by rw [ren_eq, hg, hn]; rfl
  have hol := hD.outer
  have hil := hD.inner
  have HONE := Lib.hid (fun (k : Nat) (hk : k < b.outer.length) => ren_one hG hn hk)
  have HSO := Lib.hid (from_sort hG hn)
  have hro := ren_edges hn
  have HINV : Hid (invR b = ⟨0, [], [], 0, innerN b, subW b.outer (fromL b)⟩) := by
    show _ = _
    unfold invR
    rw [if_neg (by omega)]
    unfold subBig
    rw [HSO.out]
  rw [HINV.out]
  obtain ⟨a1, c1, a2, c2, a3, c3, a4, c4, rfl, _, _, h3, h4, _, _⟩ := h.big.parts
  obtain ⟨_, _, en, _, _, Hn⟩ := h3.open
  obtain ⟨rfl, rfl⟩ := (by simpa using en : a3 = _ ∧ c3 = _)
  have HN := Lib.hid Hn
  have HSZ := Lib.hid h3.2
  have hil2 : (innerN b).length ≤ 16 := by simpa [innerN] using hil
  have HIS := Lib.hid (show ∀ s ∈ innerN b, s.size ≤ 1073741824 from fun s hs => by
    obtain ⟨x, hx, rfl⟩ := List.mem_map.1 hs
    exact (h4.2 x hx).1)
  have HG := Lib.hid hG
  have HBIG := Lib.hid h.big
  obtain ⟨W0, hW0⟩ : ∃ W, W = (w.alloc (.cells #[.int .i64 b.roots, .slice a1 b.nodes.length c1, .slice a2 b.sites.length c2, .int .i64 b.edges, .slice a3 b.outer.length c3, .slice a4 b.inner.length c4] 34)).alloc (.cells #[.int .i64 0, .slice none 0 0, .slice none 0 0, .int .i64 0, .slice none 0 0, .slice none 0 0] 34) := ⟨_, rfl⟩
  have BA : Box W0 w.heap.size #[.int .i64 b.roots, .slice a1 b.nodes.length c1, .slice a2 b.sites.length c2, .int .i64 b.edges, .slice a3 b.outer.length c3, .slice a4 b.inner.length c4] 34 := by rw [hW0]; exact (Box.new _ _ _).alloc _
  have BR : Box W0 (w.heap.size + 1) #[.int .i64 0, .slice none 0 0, .slice none 0 0, .int .i64 0, .slice none 0 0, .slice none 0 0] 34 := by rw [hW0]; exact Box.new' _ _ _ (by simp)
  have hA : Below w.heap.size w W0 := by rw [hW0]; exact bthen (balloc _ _) (balloc _ _)
  have HIP := Lib.hid (implIsPermutation_ct _ _ sig b false _ (h.below hA) hgp)
  have HIR := Lib.hid (fun W (hb : Below w.heap.size w W) => implIsRenaming_ct _ _ sig b true W (h.below hb) hgn)
  have HML : Hid ((fromL b).length = b.outer.length) := fromL_len b
  clear h3 h4 h hG hp hgp hgn hg hD hro en Hn hn
  go_enter Tryz.func18, Tryz.ntmps18
  go_wp2_with fail
  rw [← hW0]
  clear hW0
  refine HIP.out.mono ?_
  rintro e w2 ⟨rfl, hb⟩
  have BA := BA.below hb
  have BR := BR.below hb
  have hb := bthen hA hb
  clear HIP hA
  have q := BA.cell
  go_wp2_with fail
  clear q
  refine (HIR.out _ hb).mono ?_
  rintro e w3 ⟨rfl, b3⟩
  have BA := BA.below b3
  have BR := BR.below b3
  have hb := bthen hb b3
  clear HIR b3
  have q := BA.cell
  go_wp2_with fail
  clear q
  refine (innerNames_ct _ b _ (HBIG.out.below hb) (by omega)).mono ?_
  rintro e w4 ⟨u, rfl, hu, b4⟩
  obtain ⟨ua, uc, rfl⟩ := hu.shp
  have hso : StrsOwn (w.heap.size + 2) w4 (.slice ua (innerN b).length uc) (innerN b) := ⟨hu.1.mono BR.lt, hu.2⟩
  have BA := BA.below b4
  have BR := BR.below b4
  have hb := bthen hb b4
  clear b4 hu
  have q := (BA.alloc (.cells #[.int .i64 0, .slice none 0 0, .slice none 0 0, .int .i64 0, .slice ua (innerN b).length uc, .slice none 0 0] 34)).cell
  go_wp2_with fail
  clear q
  obtain ⟨W1, hW1⟩ : ∃ W, W = w4.alloc (.cells #[.int .i64 0, .slice none 0 0, .slice none 0 0, .int .i64 0, .slice ua (innerN b).length uc, .slice none 0 0] 34) := ⟨_, rfl⟩
  rw [← hW1]
  have H4 : Hid (∀ p ∈ blks (.slice ua (innerN b).length uc), w.heap.size + 2 ≤ p ∧ p < w4.heap.size) := fun p hp => hso.lt p hp
  have hA3 : w.heap.size + 2 ≤ w4.heap.size := BR.lt
  have BC : Box W1 w4.heap.size #[.int .i64 0, .slice none 0 0, .slice none 0 0, .int .i64 0, .slice ua (innerN b).length uc, .slice none 0 0] 34 := by rw [hW1]; exact Box.new _ _ _
  have b5 : Below w4.heap.size w4 W1 := by rw [hW1]; exact balloc _ _
  have BA := BA.below b5
  have BR := BR.below b5
  have hb := bthen hb b5
  have hso := hso.keep (keep_below b5 (fun p hp => (hso.lt p hp).2))
  have hs : w4.heap.size + 1 ≤ W1.heap.size := by rw [hW1]; simp
  obtain ⟨n0, hn0⟩ : ∃ n, n = w4.heap.size := ⟨_, rfl⟩
  rw [← hn0] at BC hs hA3 H4 ⊢
  clear b5 hW1 hn0
  go_loopw [46, 10, 11, 12, 13] (fun i _ _ _ _ W => ∃ k : Nat, k ≤ b.outer.length ∧ i = .int .i64 k ∧ Below w.heap.size w W ∧ n0 + 1 ≤ W.heap.size ∧ Box W w.heap.size #[.int .i64 b.roots, .slice a1 b.nodes.length c1, .slice a2 b.sites.length c2, .int .i64 b.edges, .slice a3 b.outer.length c3, .slice a4 b.inner.length c4] 34 ∧ Box W (w.heap.size + 1) #[.int .i64 0, .slice none 0 0, .slice none 0 0, .int .i64 0, .slice none 0 0, .slice none 0 0] 34 ∧ StrsOwn (w.heap.size + 2) W (.slice ua (innerN b).length uc) (innerN b) ∧ ∃ vs, Box W n0 #[.int .i64 0, .slice none 0 0, .slice none 0 0, .int .i64 0, .slice ua (innerN b).length uc, vs] 34 ∧ Acc W (n0 + 1) 84 2 vs (subRows b.outer (fromL b) k)) (fun i _ _ _ _ _ => b.outer.length - (intOf i).toNat)
  case atStart => exact ⟨0, Nat.zero_le _, rfl, hb, hs, BA, BR, hso, _, BC, Acc.nil _ _ _ _⟩
  case round =>
    clear BA BR BC hb hs hso W1
    obtain ⟨k, hk, rfl, hb, hs, BA, BR, hso, vs, BC, acc⟩ := hrel
    obtain ⟨av, cv, rfl⟩ := acc.shape
    have HL : Hid ((subRows b.outer (fromL b) k).length = k) := subRows_len HML.out hk
    rw [HL.out] at BC acc
    by_cases hkl : k < b.outer.length
    · obtain ⟨x, hx⟩ := getElem?_of_lt hkl
      obtain ⟨s, hs1⟩ := HONE.out k hkl
      have hy : (fromL b)[k]? = some s := by rw [fromL_get hkl, hs1]; rfl
      have HT : Hid (subRows b.outer (fromL b) (k + 1) = subRows b.outer (fromL b) k ++ [[.string x, .int .i64 (Lib.idxOfS (innerN b) s)]]) := by
        have := subRows_snoc hx hy
        rw [HSO.out] at this
        exact this
      obtain ⟨_, b1, o1, rfl, hc0⟩ := HN.out k x hx
      have g1 := (hb.cell (World.block_lt_of_cell? w _ hc0)).trans hc0
      have HC := pointsOf_ct _ sig b (k : Int) wr (HBIG.out.below hb) HG.out (by unfold I64; omega)
      rw [hs1] at HC
      have HC := Lib.hid HC
      have q := BA.cell
      clear hx hy hc0 hs1
      go_wp2_with fail
      refine HC.out.mono ?_
      rintro e w5 ⟨u1, u2, rfl, hu1, hu2, _, b5⟩
      obtain ⟨qa, qc, rfl, _, _, Hu⟩ := hu2.at.open
      obtain ⟨_, ob, oo, rfl, hcy⟩ := Hu 0 s rfl
      rw [Nat.add_zero] at hcy
      have BA := BA.below b5
      have BR := BR.below b5
      have BC := BC.below b5
      have acc := acc.below b5
      have hso := hso.keep (keep_below b5 (fun p hp => (hso.lt p hp).2))
      have hb := bthen hb b5
      have hs := Nat.le_trans hs b5.size
      have hst := hso.at
      clear q HC hu1 hu2 b5 Hu g1
      rw [show [s].length = 1 from rfl]
      go_wp2_with fail
      have gc1 := fun z => gr_cell (w := w5) hcy z
      have gC := fun z => gr_cell (w := w5) (BC.cell 5) z
      have gD := fun z => gr_cell (w := w5) (BC.cell 4) z
      refine rg_region [0, 1, 2, 3, 4, 5, 6, 7, 8, 9, 10] [11, 12, 13] (lo := (.cons _ (.cons _ (.cons _ .nil)))) (by rfl) (tAt 8 (eVal (.int .i64 (Lib.idxOfS (innerN b) s))) (tAt 10 (eLit1 [.string x, .int .i64 (Lib.idxOfS (innerN b) s)] 84) tNil)) (by kernel_rfl) (by rfl) (by kernel_rfl) ?_
      refine rg_quiet anti_end [0, 1, 2, 3, 4, 5, 6, 7] [8, 9, 10] (lo := (.cons _ (.cons _ (.cons _ (.cons _ (.cons _ (.cons _ (.cons _ (.cons _ .nil))))))))) (by rfl) (by kernel_rfl) ?_
      repeat (go_big_quiet_step (fail))
      refine wpQuiet_nil ?_
      refine rg_call 8 rfl rfl 64 #[.slice ua (innerN b).length uc, .string s] ?_ ?_ ?_
      · intro w; simp [go_sem]
      · rintro w' ⟨y, rfl⟩ hd
        refine (sIndex_ct _ (innerN b) s _ (hst.below (gr_below _ _))).mono ?_
        rintro e w3 ⟨rfl, rfl⟩
        exact ⟨_, rfl, Below.refl _ _, rfl⟩
      intro v hv
      obtain rfl : v = .int .i64 (Lib.idxOfS (innerN b) s) := hv
      simp only [Act.put, List.setIfInBounds_toArray, List.set_cons_zero, List.set_cons_succ]
      refine rg_quiet anti_end [9] [10] (lo := (.cons _ .nil)) (by rfl) (by kernel_rfl) ?_
      repeat (go_big_quiet_step (fail))
      refine wpQuiet_nil ?_
      refine rg_made 10 rfl rfl ?_ ?_
      · rintro w' ⟨y, rfl⟩ hd
        exact ⟨_, _, by simp [go_sem]; try exact ⟨rfl, rfl⟩, balloc _ _, _, rfl, Box.new _ _ _, Nat.le_refl _, by simp⟩
      intro v hv
      obtain ⟨gl, rfl⟩ : ∃ g, v = .slice (some ⟨g, 0, none⟩) 1 1 := hv
      simp only [Act.put, List.setIfInBounds_toArray, List.set_cons_zero, List.set_cons_succ]
      intro w6 U hb3 hF
      obtain ⟨_, _, _, _, _, hF⟩ := hF
      obtain ⟨gl', e0, BL, _⟩ : ∃ g, Value.slice (some ⟨gl, 0, none⟩) 1 1 = .slice (some ⟨g, 0, none⟩) 1 1 ∧ Box w6 g #[.string x, .int .i64 (Lib.idxOfS (innerN b) s)] 84 ∧ _ := hF
      obtain rfl : gl = gl' := by simpa using e0
      clear e0 gc1 gC gD hcy hst
      have BA := BA.below hb3
      have BR := BR.below hb3
      have BC := BC.below hb3
      have acc := acc.below hb3
      have hso := hso.keep (keep_below hb3 (fun p hp => (hso.lt p hp).2))
      have hb := bthen hb hb3
      have hs := Nat.le_trans hs hb3.size
      go_wp2_with (at_builtin; refine appR _ rfl (.tmp 58) (.tmp 67) 32 rfl (n0 + 1) 84 2 24 1 (.agg #[.string ⟨#[]⟩, .int .i64 0]) Tryz.underlying32 inf_wr rfl (by decide) (by decide) _ (subRows b.outer (fromL b) k) (by rfl) acc _ [[.string x, .int .i64 (Lib.idxOfS (innerN b) s)]] (by rfl) (rowAt_one (row := [.string x, .int .i64 (Lib.idxOfS (innerN b) s)]) BL (by decide)) (by simp [Value.oneCell']) (by rw [HL.out]; simp; omega) hs ?_)
      intro v2 w7 acc2 hg _
      rw [← HT.out] at acc2
      obtain ⟨av2, cv2, rfl⟩ := acc2.shape
      rw [subRows_len HML.out (by omega)] at acc2 ⊢
      have hb2 := grown_below hb acc hg (by omega) (by omega)
      have hs2 := Nat.le_trans hs hg.size
      have BA2 := BA.keep (grown_block acc hg (by omega) BA.lt)
      have BR2 := BR.keep (grown_block acc hg (by omega) BR.lt)
      have BC2 := BC.keep (grown_block acc hg (by omega) BC.lt)
      have hso2 := hso.keep (fun p hp => grown_block acc hg (by have := H4.out p hp; omega) (hso.lt p hp).2)
      clear acc hg BA BR BC hb hs BL hb3 hso
      have q := BC2.cell
      have f := BC2.free
      go_wp2_with fail
      go_roundw
      case rel => exact ⟨k + 1, by omega, by go_num, hb2.setCell (by dsimp only; omega) _, by simpa [size_setCell] using hs2, BA2.other _ (by dsimp only; omega), BR2.other _ (by dsimp only; omega), hso2.keep (keep_setCell (fun h => by have := H4.out _ h; simp at this)), _, BC2.set 5 _, acc2.keep (fun j hj _ => heap_setCell_other _ _ _ _ (by dsimp only; omega))⟩
      case measure => simp [intOf]; omega
    · have e : k = b.outer.length := by omega
      subst e
      rw [subRows_full HML.out] at acc
      have HW : Hid (∀ c ∈ subW b.outer (fromL b), c.name.size ≤ 1073741824 ∧ I64 c.link) := subW_ok HML.out HSZ.out (by have := HML.out; omega)
      have q := BC.cell
      have q0 := BR.cell
      have f0 := BR.free
      go_wp2_with fail
      have ho4 := H4.out
      have hwi := acc.own.lt
      have hsl := subW_len HML.out
      refine bodyPost_ret (v := .tuple #[.agg #[.int .i64 0, .slice none 0 0, .slice none 0 0, .int .i64 0, .slice ua (innerN b).length uc, .slice av b.outer.length cv], .bool true]) (by simp [results, Tryz.results18, go_sem, q0]) rfl ⟨_, _, rfl, ⟨_, _, _, _, [], by simp, nds_none _ _, ints_none _ _, ⟨(hso.1.keep ?_).mono (by omega), hso.2⟩, ⟨(acc.own.keep ?_).mono (by omega), ?_, ?_⟩, ?_, ?_, rfl⟩, ?_, ?_⟩
      · intro g hg; have := (hso.lt g hg); repeat rw [heap_setCell_other _ _ _ _ (by dsimp only; omega)]
      · intro g hg; have := (hwi g hg); repeat rw [heap_setCell_other _ _ _ _ (by dsimp only; omega)]
      · simp only [hsl]; omega
      · exact HW.out
      · unfold I64; simp only; omega
      · unfold I64; simp only; omega
      · have e0 : blks (.slice none 0 0) = [] := rfl
        rw [e0, List.nil_append, List.nil_append, List.nodup_append]
        exact ⟨blks_nodup _ _ _, blks_nodup _ _ _, fun p hp q hq => by have := ho4 p hp; have := hwi q hq; omega⟩
      · iterate 6 refine Below.setCell ?_ (by simp) _
        exact hb
set_option maxRecDepth 100000 in
set_option maxHeartbeats 4000000 in
theorem implInverseOf_ct (vs v : Value) (sig : List Ctl) (b : Big) (w : World) (h : Ctx w vs v sig b) : Calls Tryz.prog 18 #[vs, v] w (GivesBig (invP sig b) (invC sig b) w) := by
  cases hC : invC sig b with
  | true =>
    rw [inv_yes hC]
    unfold invC at hC
    simp only [Bool.and_eq_true, Bool.or_eq_true] at hC
    cases hp : permB b with
    | true => exact implInvPerm_ct vs v sig b w h hC.1 hp
    | false =>
      have hn : renmB b = true := by
        rcases hC.2 with h1 | h1
        · rw [hp] at h1; cases h1
        · exact h1
      exact implInvRen_ct vs v sig b w h hC.1 hp hn
  | false =>
    have hgp : (goodB sig b && permB b) = false := by
      unfold invC at hC
      cases h1 : goodB sig b <;> cases h2 : permB b <;> simp_all
    have hgn : (goodOB sig b && hasOneB b) = false := by
      rw [ren_eq]
      unfold invC at hC
      cases h1 : goodB sig b <;> cases h2 : renmB b <;> simp_all
    rw [inv_no hC]
    obtain ⟨a1, c1, a2, c2, a3, c3, a4, c4, rfl⟩ := h.big.shape
    have hA := bthen (balloc w (.cells #[.int .i64 b.roots, .slice a1 b.nodes.length c1, .slice a2 b.sites.length c2, .int .i64 b.edges, .slice a3 b.outer.length c3, .slice a4 b.inner.length c4] 34)) (balloc (w.alloc (.cells #[.int .i64 b.roots, .slice a1 b.nodes.length c1, .slice a2 b.sites.length c2, .int .i64 b.edges, .slice a3 b.outer.length c3, .slice a4 b.inner.length c4] 34)) (.cells #[.int .i64 0, .slice none 0 0, .slice none 0 0, .int .i64 0, .slice none 0 0, .slice none 0 0] 34))
    obtain ⟨W0, hW0⟩ : ∃ W, W = (w.alloc (.cells #[.int .i64 b.roots, .slice a1 b.nodes.length c1, .slice a2 b.sites.length c2, .int .i64 b.edges, .slice a3 b.outer.length c3, .slice a4 b.inner.length c4] 34)).alloc (.cells #[.int .i64 0, .slice none 0 0, .slice none 0 0, .int .i64 0, .slice none 0 0, .slice none 0 0] 34) := ⟨_, rfl⟩
    have BA : Box W0 w.heap.size #[.int .i64 b.roots, .slice a1 b.nodes.length c1, .slice a2 b.sites.length c2, .int .i64 b.edges, .slice a3 b.outer.length c3, .slice a4 b.inner.length c4] 34 := by rw [hW0]; exact (Box.new _ _ _).alloc _
    have BR : Box W0 (w.heap.size + 1) #[.int .i64 0, .slice none 0 0, .slice none 0 0, .int .i64 0, .slice none 0 0, .slice none 0 0] 34 := by rw [hW0]; exact Box.new' _ _ _ (by simp)
    have hs0 : w.heap.size + 2 ≤ W0.heap.size := by rw [hW0]; simp
    rw [← hW0] at hA
    have HIR := Lib.hid (fun W (hb : Below w.heap.size w W) => implIsRenaming_ct _ _ sig b false W (h.below hb) hgn)
    go_enter Tryz.func18, Tryz.ntmps18
    go_wp2_with fail
    rw [← hW0]
    clear hW0
    refine (implIsPermutation_ct _ _ sig b false _ (h.below hA) hgp).mono ?_
    rintro e w2 ⟨rfl, hb⟩
    have BA := BA.below hb
    have BR := BR.below hb
    have hb := bthen hA hb
    clear hC hgp hgn h
    have q := BA.cell
    go_wp2_with fail
    clear q
    refine (HIR.out _ hb).mono ?_
    rintro e w3 ⟨rfl, b3⟩
    have BR := BR.below b3
    have hb := bthen hb b3
    have q := BR.cell
    have f := BR.free
    go_wp2_with fail
    refine bodyPost_ret (v := .tuple #[.agg #[.int .i64 0, .slice none 0 0, .slice none 0 0, .int .i64 0, .slice none 0 0, .slice none 0 0], .bool false]) (by simp [results, Tryz.results18, go_sem, q]) rfl ⟨_, _, rfl, noBig_own _ _, by simp, ?_⟩
    iterate 6 refine Below.setCell ?_ (by simp) _
    exact hb
end Go.Proofs.YthbdmcobpcoajaaGreatDoor
