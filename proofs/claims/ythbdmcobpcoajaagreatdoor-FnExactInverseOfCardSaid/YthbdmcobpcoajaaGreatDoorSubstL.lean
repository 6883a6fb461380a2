/- Substitutions. -/
import Derived.Test.YthbdmcobpcoajaaGreatDoorSortS
import Derived.Test.YthbdmcobpcoajaaGreatDoorG2
import Derived.Test.YthbdmcobpcoajaaGreatDoorClos
import Derived.Test.YthbdmcobpcoajaaGreatDoorG4
namespace Go.Proofs.YthbdmcobpcoajaaGreatDoor
open Go Go.RowKit Go.BigFrame

def subW (l m : List ByteArray) : List Wr := List.zipWith (fun s t => (⟨s, Lib.idxOfS (sortU m) t⟩ : Wr)) l m
theorem subW_len {l m : List ByteArray} (h : m.length = l.length) : (subW l m).length = l.length := by simp [subW, h]
theorem subW_get {l m : List ByteArray} {k : Nat} {x y : ByteArray} (hx : l[k]? = some x) (hy : m[k]? = some y) : (subW l m)[k]? = some ⟨x, Lib.idxOfS (sortU m) y⟩ := by simp [subW, List.getElem?_zipWith, hx, hy]
def subRows (l m : List ByteArray) (k : Nat) : List (List Value) := ((subW l m).take k).map Wr.cells
theorem subRows_len {l m : List ByteArray} {k : Nat} (h : m.length = l.length) (hk : k ≤ l.length) : (subRows l m k).length = k := by simp [subRows, subW_len h]; omega
theorem subRows_snoc {l m : List ByteArray} {k : Nat} {x yy : ByteArray} (hx : l[k]? = some x) (hy : m[k]? = some yy) : subRows l m (k + 1) = subRows l m k ++ [[.string x, .int .i64 (Lib.idxOfS (sortU m) yy)]] := by
  unfold subRows
  rw [take_snoc_l (subW_get hx hy)]; simp [Wr.cells]
theorem subRows_full {l m : List ByteArray} (h : m.length = l.length) : subRows l m l.length = (subW l m).map Wr.cells := by unfold subRows; rw [List.take_of_length_le (by rw [subW_len h]; exact Nat.le_refl _)]
theorem subW_ok {l m : List ByteArray} (h : m.length = l.length) (hs : ∀ s ∈ l, s.size ≤ 1073741824) (h16 : m.length ≤ 1000) : ∀ c ∈ subW l m, c.name.size ≤ 1073741824 ∧ I64 c.link := by
  intro c hc
  obtain ⟨k, hk⟩ := List.mem_iff_getElem?.1 hc
  have hkl := (List.getElem?_eq_some_iff.1 hk).1
  rw [subW_len h] at hkl
  obtain ⟨x, hx⟩ := getElem?_of_lt hkl
  obtain ⟨y, hy⟩ := getElem?_of_lt (show k < m.length by omega)
  rw [subW_get hx hy] at hk
  simp only [Option.some.injEq] at hk
  subst hk
  have := idx_bd (sortU m) y
  have := sortU_len m
  exact ⟨hs x (List.mem_of_getElem? hx), by unfold I64; dsimp only; omega⟩
def subBig (l m : List ByteArray) : Big := ⟨0, [], [], 0, sortU m, subW l m⟩
def subB (l m : List ByteArray) : Bool := namesB l && (decide (m.length = l.length) && m.all nameB)
def subP (l m : List ByteArray) : Big := if subB l m then subBig l m else noBig
theorem subP_len (l m : List ByteArray) : (cntB (subP l m) : Int) ≤ 100000000 := by
  unfold subP
  split
  · rename_i h
    unfold subB at h
    simp only [Bool.and_eq_true, decide_eq_true_eq] at h
    have h16 := names_len h.1
    have h1 := sortU_len m
    have h2 := subW_len h.2.1
    unfold cntB cntN subBig
    simp only [sumOf_nil, List.length_nil, h2]
    omega
  · unfold cntB cntN noBig
    simp [sumOf_nil]


set_option maxRecDepth 100000 in
set_option maxHeartbeats 4000000 in
theorem l3Substitution_ct (v v' : Value) (l m : List ByteArray) (w : World) (h : StrsAt w v l) (h' : StrsAt w v' m) (h16 : l.length ≤ 16) (hml : m.length = l.length) : Calls Tryz.prog 138 #[v, v'] w fun e w' => ∃ u bs, e = .returned u ∧ BigOwn w.heap.size w' u (subBig l m) bs ∧ bs.Nodup ∧ Below w.heap.size w w' := by
  have HSL : Hid (∀ s ∈ l, s.size ≤ 1073741824) := h.2
  have HSM : Hid (∀ s ∈ m, s.size ≤ 1073741824) := h'.2
  obtain ⟨a, c, rfl, hlc, hl30, h3⟩ := h.open
  obtain ⟨a', c', rfl, hlc', hl30', h3'⟩ := h'.open
  have H3 : Hid _ := h3
  have H3' : Hid _ := h3'
  have HA : Hid (StrsAt w (.slice a l.length c) l) := h
  have HB' : Hid (StrsAt w (.slice a' m.length c') m) := h'
  clear h3 h3' h h'
  have HML : Hid (m.length = l.length) := hml
  have hm16 : m.length ≤ 16 := by omega
  clear hml
  go_enter Tryz.func138, Tryz.ntmps138
  go_wp2_with fail
  obtain ⟨W0, hW0⟩ : ∃ W, W = w.alloc (.cells #[.int .i64 0, .slice none 0 0, .slice none 0 0, .int .i64 0, .slice none 0 0, .slice none 0 0] 34) := ⟨_, rfl⟩
  rw [← hW0]
  have BA : Box W0 w.heap.size #[.int .i64 0, .slice none 0 0, .slice none 0 0, .int .i64 0, .slice none 0 0, .slice none 0 0] 34 := by rw [hW0]; exact Box.new _ _ _
  have hb : Below w.heap.size w W0 := by rw [hW0]; exact balloc _ _
  clear hW0
  refine (l2Sorted_ct _ m _ (HB'.out.below hb) hm16).mono ?_
  rintro e w3 ⟨u, rfl, hu, bb⟩
  obtain ⟨ua, uc, rfl⟩ : ∃ a c, u = .slice a (sortU m).length c := by have := hu.shape; simpa [strRows] using this
  have hso : StrsOwn (w.heap.size + 1) w3 (.slice ua (sortU m).length uc) (sortU m) := ⟨hu.mono BA.lt, by have := sortU_len m; omega, fun s hs => HSM.out s ((sortU_mem m s).1 hs)⟩
  have BA := BA.below bb
  have hb := bthen hb bb
  clear bb hu
  go_wp2_with fail
  obtain ⟨W1, hW1⟩ : ∃ W, W = w3.alloc (.cells #[.int .i64 0, .slice none 0 0, .slice none 0 0, .int .i64 0, .slice ua (sortU m).length uc, .slice none 0 0] 34) := ⟨_, rfl⟩
  rw [← hW1]
  have H4 : Hid (∀ p ∈ blks (.slice ua (sortU m).length uc), p < w3.heap.size) := fun p hp => (hso.lt p hp).2
  have hA3 : w.heap.size + 1 ≤ w3.heap.size := BA.lt
  have BC : Box W1 w3.heap.size #[.int .i64 0, .slice none 0 0, .slice none 0 0, .int .i64 0, .slice ua (sortU m).length uc, .slice none 0 0] 34 := by rw [hW1]; exact Box.new _ _ _
  have b : Below w3.heap.size w3 W1 := by rw [hW1]; exact balloc _ _
  have BA := BA.below b
  have hb := bthen hb b
  have hso := hso.keep (keep_below b (fun p hp => (hso.lt p hp).2))
  have hs : w3.heap.size + 1 ≤ W1.heap.size := by rw [hW1]; simp
  obtain ⟨n0, hn0⟩ : ∃ n, n = w3.heap.size := ⟨_, rfl⟩
  rw [← hn0] at BC hs hA3 H4 ⊢
  clear b hW1 hn0
  go_loopw [7] (fun i W => ∃ k : Nat, k ≤ l.length ∧ i = .int .i64 k ∧ Below w.heap.size w W ∧ n0 + 1 ≤ W.heap.size ∧ Box W w.heap.size #[.int .i64 0, .slice none 0 0, .slice none 0 0, .int .i64 0, .slice none 0 0, .slice none 0 0] 34 ∧ StrsOwn (w.heap.size + 1) W (.slice ua (sortU m).length uc) (sortU m) ∧ ∃ vs, Box W n0 #[.int .i64 0, .slice none 0 0, .slice none 0 0, .int .i64 0, .slice ua (sortU m).length uc, vs] 34 ∧ Acc W (n0 + 1) 84 2 vs (subRows l m k)) (fun i _ => l.length - (intOf i).toNat)
  case atStart => exact ⟨0, Nat.zero_le _, rfl, hb, hs, BA, hso, _, BC, Acc.nil _ _ _ _⟩
  case round =>
    clear BA BC hb hs hso W1
    obtain ⟨k, hk, rfl, hb, hs, BA, hso, vs, BC, acc⟩ := hrel
    obtain ⟨av, cv, rfl⟩ := acc.shape
    have HL : Hid ((subRows l m k).length = k) := subRows_len HML.out hk
    rw [HL.out] at BC acc
    by_cases hkl : k < l.length
    · obtain ⟨x, hx⟩ := getElem?_of_lt hkl
      have hkm : k < m.length := by rw [HML.out]; exact hkl
      obtain ⟨yy, hy⟩ := getElem?_of_lt hkm
      have HT : Hid (subRows l m (k + 1) = subRows l m k ++ [[.string x, .int .i64 (Lib.idxOfS (sortU m) yy)]]) := subRows_snoc hx hy
      obtain ⟨_, b1, o1, rfl, hc0⟩ := H3.out k x hx
      obtain ⟨_, b2, o2, rfl, hd0⟩ := H3'.out k yy hy
      have g1 := (hb.cell (World.block_lt_of_cell? w _ hc0)).trans hc0
      have g2 := (hb.cell (World.block_lt_of_cell? w _ hd0)).trans hd0
      have hst := hso.at
      have q := BC.cell
      clear hx hy hc0 hd0
      go_wp2_with fail
      clear q
      have gc1 := fun z => gr_cell (w := wr) g1 z
      have gc2 := fun z => gr_cell (w := wr) g2 z
      have gC := fun z => gr_cell (w := wr) (BC.cell 5) z
      have gD := fun z => gr_cell (w := wr) (BC.cell 4) z
      refine rg_region [0, 1, 2, 3, 4, 5, 6, 7, 8, 9, 10, 11, 12, 13] [14, 15, 16] (lo := (.cons _ (.cons _ (.cons _ .nil)))) (by rfl) (tAt 11 (eVal (.int .i64 (Lib.idxOfS (sortU m) yy))) (tAt 13 (eLit1 [.string x, .int .i64 (Lib.idxOfS (sortU m) yy)] 84) tNil)) (by kernel_rfl) (by rfl) (by kernel_rfl) ?_
      refine rg_quiet anti_end [0, 1, 2, 3, 4, 5, 6, 7, 8, 9, 10] [11, 12, 13] (lo := (.cons _ (.cons _ (.cons _ (.cons _ (.cons _ (.cons _ (.cons _ (.cons _ (.cons _ (.cons _ (.cons _ .nil)))))))))))) (by rfl) (by kernel_rfl) ?_
      repeat (go_big_quiet_step (fail))
      refine wpQuiet_nil ?_
      refine rg_call 11 rfl rfl 117 #[.slice ua (sortU m).length uc, .string yy] ?_ ?_ ?_
      · intro w; simp [go_sem]
      · rintro w' ⟨y, rfl⟩ hd
        refine (l2At_ct _ (sortU m) yy _ (hst.below (gr_below _ _))).mono ?_
        rintro e w3 ⟨rfl, rfl⟩
        exact ⟨_, rfl, Below.refl _ _, rfl⟩
      intro v hv
      obtain rfl : v = .int .i64 (Lib.idxOfS (sortU m) yy) := hv
      simp only [Act.put, List.setIfInBounds_toArray, List.set_cons_zero, List.set_cons_succ]
      refine rg_quiet anti_end [12] [13] (lo := (.cons _ .nil)) (by rfl) (by kernel_rfl) ?_
      repeat (go_big_quiet_step (fail))
      refine wpQuiet_nil ?_
      refine rg_made 13 rfl rfl ?_ ?_
      · rintro w' ⟨y, rfl⟩ hd
        exact ⟨_, _, by simp [go_sem]; try exact ⟨rfl, rfl⟩, balloc _ _, _, rfl, Box.new _ _ _, Nat.le_refl _, by simp⟩
      intro v hv
      obtain ⟨gl, rfl⟩ : ∃ g, v = .slice (some ⟨g, 0, none⟩) 1 1 := hv
      simp only [Act.put, List.setIfInBounds_toArray, List.set_cons_zero, List.set_cons_succ]
      intro w4 U hb3 hF
      obtain ⟨_, _, _, _, _, hF⟩ := hF
      obtain ⟨gl', e0, BL, _⟩ : ∃ g, Value.slice (some ⟨gl, 0, none⟩) 1 1 = .slice (some ⟨g, 0, none⟩) 1 1 ∧ Box w4 g #[.string x, .int .i64 (Lib.idxOfS (sortU m) yy)] 84 ∧ _ := hF
      obtain rfl : gl = gl' := by simpa using e0
      clear e0 gc1 gc2 gC gD g1 g2 hst
      have BA := BA.below hb3
      have BC := BC.below hb3
      have acc := acc.below hb3
      have hso := hso.keep (keep_below hb3 (fun p hp => (hso.lt p hp).2))
      have hb := bthen hb hb3
      have hs := Nat.le_trans hs hb3.size
      go_wp2_with (at_builtin; refine appR _ rfl (.tmp 19) (.tmp 31) 32 rfl (n0 + 1) 84 2 24 1 (.agg #[.string ⟨#[]⟩, .int .i64 0]) Tryz.underlying32 inf_wr rfl (by decide) (by decide) _ (subRows l m k) (by rfl) acc _ [[.string x, .int .i64 (Lib.idxOfS (sortU m) yy)]] (by rfl) (rowAt_one (row := [.string x, .int .i64 (Lib.idxOfS (sortU m) yy)]) BL (by decide)) (by simp [Value.oneCell']) (by rw [HL.out]; simp; omega) hs ?_)
      intro v2 w5 acc2 hg _
      rw [← HT.out] at acc2
      obtain ⟨av2, cv2, rfl⟩ := acc2.shape
      rw [subRows_len HML.out (by omega)] at acc2 ⊢
      have hb2 := grown_below hb acc hg (by omega) (by omega)
      have hs2 := Nat.le_trans hs hg.size
      have BA2 := BA.keep (grown_block acc hg (by omega) BA.lt)
      have BC2 := BC.keep (grown_block acc hg (by omega) BC.lt)
      have hso2 := hso.keep (fun p hp => grown_block acc hg (by have := H4.out p hp; omega) (hso.lt p hp).2)
      clear acc hg BA BC hb hs BL hb3 hso
      have q := BC2.cell
      have f := BC2.free
      go_wp2_with fail
      go_roundw
      case rel => exact ⟨k + 1, by omega, by go_num, hb2.setCell (by simp <;> omega) _, by simpa [size_setCell] using hs2, BA2.other _ (by simp <;> omega), hso2.keep (keep_setCell (fun h => by have := H4.out _ h; simp at this)), _, BC2.set 5 _, acc2.keep (fun j hj _ => heap_setCell_other _ _ _ _ (by simp <;> omega))⟩
      case measure => simp [intOf]; omega
    · have e : k = l.length := by omega
      subst e
      rw [subRows_full HML.out] at acc
      have HW : Hid (∀ c ∈ subW l m, c.name.size ≤ 1073741824 ∧ I64 c.link) := subW_ok HML.out HSL.out (by have := HML.out; omega)
      have q := BC.cell
      have q0 := BA.cell
      have f0 := BA.free
      go_wp2_with fail
      have ho4 := H4.out
      have hwi := acc.own.lt
      have hsl := subW_len HML.out
      refine bodyPost_ret (v := .agg #[.int .i64 0, .slice none 0 0, .slice none 0 0, .int .i64 0, .slice ua (sortU m).length uc, .slice av l.length cv]) (by simp [results, Tryz.results138, go_sem, q0]) rfl ⟨_, _, rfl, ⟨_, _, _, _, [], by simp [subBig, hsl], nds_none _ _, ints_none _ _, ⟨(hso.1.keep ?_).mono (by omega), hso.2⟩, ⟨(acc.own.keep ?_).mono (by omega), ?_, ?_⟩, ?_, ?_, rfl⟩, ?_, ?_⟩
      · intro g hg; have := (hso.lt g hg); repeat rw [heap_setCell_other _ _ _ _ (by simp <;> omega)]
      · intro g hg; have := (hwi g hg); repeat rw [heap_setCell_other _ _ _ _ (by simp <;> omega)]
      · simp only [subBig, hsl]; omega
      · exact HW.out
      · unfold I64; simp only [subBig]; omega
      · unfold I64; simp only [subBig]; omega
      · have e0 : blks (.slice none 0 0) = [] := rfl
        rw [e0, List.nil_append, List.nil_append, List.nodup_append]
        exact ⟨blks_nodup _ _ _, blks_nodup _ _ _, fun p hp q hq => by have := ho4 p hp; have := hwi q hq; omega⟩
      · iterate 6 refine Below.setCell ?_ (by simp) _
        exact hb



end Go.Proofs.YthbdmcobpcoajaaGreatDoor
