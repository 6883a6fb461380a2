/- One wiring after another: the reference's. -/
import Derived.Test.YthgelhglfbgagaaGreatDoorCmpP
import Derived.Test.YthgelhglfbgagaaGreatDoorG2
import Derived.Test.YthgelhglfbgagaaGreatDoorG4
import Derived.Test.YthgelhglfbgagaaGreatDoorG1
import Derived.Deep.RegionHeld3
namespace Go.Proofs.YthgelhglfbgagaaGreatDoor
open Go Go.RowKit Go.BigFrame

set_option maxHeartbeats 4000000 in
theorem l3SameNames_ct (v1 v2 : Value) (l m : List ByteArray) (r : Bool) (w : World) (h : StrsAt w v1 l) (h' : StrsAt w v2 m) (hr : sameN l m = r) :
    Calls Tryz.prog 57 #[v1, v2] w fun e w' => e = .returned (.bool r) ∧ Below w.heap.size w w' := by
  have HR : Hid (sameN l m = r) := hr
  clear hr
  obtain ⟨a1, c1, rfl, _, hl, h1⟩ := h.open
  obtain ⟨a2, c2, rfl, _, hm, h2⟩ := h'.open
  clear h h'
  go_enter Tryz.func57, Tryz.ntmps57
  go_wp2_with fail
  go_loopw [5] (fun i W => ∃ k : Nat, k ≤ l.length ∧ k ≤ m.length ∧ i = .int .i64 k ∧ Below w.heap.size w W ∧ Hid (∀ (j : Nat) x y, j < k → l[j]? = some x → m[j]? = some y → (x.toList == y.toList) = true)) (fun i _ => l.length - (intOf i).toNat)
  case atStart => exact ⟨0, Nat.zero_le _, Nat.zero_le _, rfl, Below.refl _ _, fun j x y hj => absurd hj (Nat.not_lt_zero _)⟩
  case round =>
    obtain ⟨k, hk, hkm, rfl, hb, HA⟩ := hrel
    by_cases hkl : k < l.length
    · by_cases hkm2 : k < m.length
      · obtain ⟨x, hx⟩ := getElem?_of_lt hkl
        obtain ⟨y, hy⟩ := getElem?_of_lt hkm2
        obtain ⟨_, b1, o1, rfl, hc0⟩ := h1 k x hx
        obtain ⟨_, b2, o2, rfl, hd0⟩ := h2 k y hy
        have HX : Hid (l[k]? = some x) := hx
        have HY : Hid (m[k]? = some y) := hy
        have gc0 := fun y => gr_cell (w := wr) ((hb.cell (World.block_lt_of_cell? w _ hc0)).trans hc0) y
        have gd0 := fun y => gr_cell (w := wr) ((hb.cell (World.block_lt_of_cell? w _ hd0)).trans hd0) y
        clear hc0 hd0 h1 h2 hx hy
        cases hxy : (x.toList == y.toList) with
        | false =>
          have HF : Hid (r = false) := by rw [← HR.out]; exact sameN_not HX.out HY.out hxy
          have hxn : (x.toList != y.toList) = true := by rw [bne, hxy]; rfl
          go_wp2_with fail
          refine wp_region_gr (by kernel_rfl) (by kernel_rfl) ?_
          repeat (go_big_quiet_step (fail))
          refine wpQuiet_nil ?_
          intro w2 hb2
          go_wp2_with fail
          go_ret
          exact ⟨by rw [HF.out]; rfl, bthen hb hb2⟩
        | true =>
          have hxn : (x.toList != y.toList) = false := by rw [bne, hxy]; rfl
          have HT : Hid (∀ (j : Nat) x y, j < k + 1 → l[j]? = some x → m[j]? = some y → (x.toList == y.toList) = true) := by
            intro j x' y' hj h1 h2
            by_cases hjk : j = k
            · subst hjk
              have e1 := HX.out.symm.trans h1
              have e2 := HY.out.symm.trans h2
              cases e1; cases e2; exact hxy
            · exact HA.out j x' y' (by omega) h1 h2
          go_wp2_with fail
          refine wp_region_gr (by kernel_rfl) (by kernel_rfl) ?_
          repeat (go_big_quiet_step (fail))
          refine wpQuiet_nil ?_
          intro w2 hb2
          clear hxy
          go_wp2_with fail
          go_roundw
          case rel => exact ⟨k + 1, by omega, by omega, by go_num, bthen hb hb2, HT⟩
          case measure => simp [intOf]; omega
      · have HF : Hid (r = false) := by rw [← HR.out]; exact sameN_len (by omega)
        have hne : ((l.length : Int) == (m.length : Int)) = false := by simp only [beq_eq_false_iff_ne, ne_eq]; omega
        clear h1 h2
        go_wp2_with fail
        go_ret
        exact ⟨by rw [HF.out]; rfl, hb⟩
    · by_cases hlen : l.length = m.length
      · have HF : Hid (r = true) := by
          rw [← HR.out]
          exact sameN_yes hlen fun j x y h3 h4 => HA.out j x y (by have := (List.getElem?_eq_some_iff.1 h3).1; omega) h3 h4
        have hne : ((l.length : Int) == (m.length : Int)) = true := by simp only [beq_iff_eq]; omega
        clear h1 h2 hlen
        go_wp2_with fail
        go_ret
        exact ⟨by rw [HF.out]; rfl, hb⟩
      · have HF : Hid (r = false) := by rw [← HR.out]; exact sameN_len hlen
        have hne : ((l.length : Int) == (m.length : Int)) = false := by simp only [beq_eq_false_iff_ne, ne_eq]; omega
        clear h1 h2 hlen
        go_wp2_with fail
        go_ret
        exact ⟨by rw [HF.out]; rfl, hb⟩
set_option maxRecDepth 100000 in
set_option maxHeartbeats 4000000 in
theorem l3Through_ct (va vb : Value) (sig : List Ctl) (a b : Big) (l : Int) (w : World) (h2 : BigAt w va a) (h3 : BigAt w vb b) (F : Fit2 sig a b) (hl : 0 ≤ l ∧ l < b.edges + b.outer.length) :
    Calls Tryz.prog 59 #[va, vb, .int .i64 l] w fun e w' => e = .returned (.int .i64 (thrF a b l)) ∧ Below w.heap.size w w' := by
  obtain ⟨p1, r1, p2, r2, p3, r3, p4, r4, rfl⟩ := h2.shape
  obtain ⟨q1, s1, q2, s2, q3, s3, q4, s4, rfl⟩ := h3.shape
  have e1 := F.gb.bds.edges
  have e2 := F.ga.bds.edges
  have e3 := F.gb.bds.outer
  have e4 := F.ga.bds.outer
  have hw4 := (BigAt.fields h2).2.2.2.1
  obtain ⟨_, _, ew, _, _, Hw⟩ := hw4.open
  obtain ⟨rfl, rfl⟩ := (by simpa using ew : p4 = _ ∧ r4 = _)
  clear ew hw4
  by_cases hlt : l < b.edges
  · have HN : Hid (thrF a b l = a.edges + l) := by show _ = _; unfold thrF; rw [if_pos hlt]
    rw [HN.out]
    clear Hw h2 h3
    go_enter Tryz.func59, Tryz.ntmps59
    go_wp2_with fail
    go_ret
    refine ⟨rfl, ?_⟩
    exact bthen (balloc _ _) (balloc _ _)
  · obtain ⟨m, hm⟩ : ∃ m : Nat, l - b.edges = m := ⟨(l - b.edges).toNat, by omega⟩
    obtain rfl : l = b.edges + (m : Int) := by omega
    obtain ⟨y, hy⟩ := getElem?_of_lt (l := a.inner) (i := m) (by rw [F.len]; omega)
    have hyl := F.ga.bds.wire y (List.mem_of_getElem? hy)
    have hml := (List.getElem?_eq_some_iff.1 hy).1
    have HN : Hid (thrF a b (b.edges + (m : Int)) = if y.link < a.edges then y.link else y.link + b.edges) := by
      show _ = _
      unfold thrF
      rw [if_neg hlt, hm, Int.toNat_natCast, lnkAt_of hy]
    obtain ⟨_, _, ob, oo, rfl, hc0, hc1⟩ := Hw m y hy
    have e5 : IntKind.i64.wrap (b.edges + (m : Int) - b.edges) = (m : Int) := by rw [Go.IntWalk.i64_in _ (by omega)]; omega
    have e6 : b.edges + (m : Int) - b.edges = (m : Int) := by omega
    have hbl := World.block_lt_of_cell? w _ hc1
    rw [HN.out]
    clear Hw hy hm HN h2 h3
    by_cases h2 : y.link < a.edges
    · rw [if_pos h2]
      go_enter Tryz.func59, Tryz.ntmps59
      go_wp2_with fail
      go_ret
      exact ⟨rfl, bthen (balloc _ _) (balloc _ _)⟩
    · rw [if_neg h2]
      go_enter Tryz.func59, Tryz.ntmps59
      go_wp2_with fail
      go_ret
      exact ⟨rfl, bthen (balloc _ _) (balloc _ _)⟩
def cmpRows (a b : Big) (k : Nat) : List (List Value) := ((b.inner.map fun x => { x with link := thrF a b x.link }).take k).map Wr.cells
theorem cmpRows_zero (a b : Big) : cmpRows a b 0 = [] := rfl
theorem cmpRows_len {a b : Big} {k : Nat} (h : k ≤ b.inner.length) : (cmpRows a b k).length = k := by simp [cmpRows]; omega
theorem cmpRows_snoc {a b : Big} {k : Nat} {x : Wr} (h : b.inner[k]? = some x) : cmpRows a b (k + 1) = cmpRows a b k ++ [[.string x.name, .int .i64 (thrF a b x.link)]] := by
  unfold cmpRows
  have h2 : (b.inner.map fun x => { x with link := thrF a b x.link } : List Wr)[k]? = some ⟨x.name, thrF a b x.link⟩ := by rw [List.getElem?_map, h]; rfl
  rw [take_snoc_l h2, List.map_append]; rfl
theorem cmpRows_full (a b : Big) : cmpRows a b b.inner.length = (b.inner.map fun x => { x with link := thrF a b x.link }).map Wr.cells := by
  unfold cmpRows; rw [List.take_of_length_le (by simp)]
set_option maxRecDepth 100000 in
set_option maxHeartbeats 16000000 in
theorem specComposeWirings_ct (vs va vb : Value) (sig : List Ctl) (a b : Big) (w : World) (h1 : CtlsAt w vs sig) (h2 : BigAt w va a) (h3 : BigAt w vb b) : Calls Tryz.prog 15 #[vs, va, vb] w (GivesBig (cmpP sig a b) (cmpC sig a b) w) := by
  have l1 := h2.lens
  obtain ⟨p1, r1, p2, r2, p3, r3, p4, r4, rfl⟩ := h2.shape
  obtain ⟨q1, s1, q2, s2, q3, s3, q4, s4, rfl⟩ := h3.shape
  obtain ⟨W0, hW0⟩ : ∃ W, W = ((w.alloc (.cells #[.int .i64 a.roots, .slice p1 a.nodes.length r1, .slice p2 a.sites.length r2, .int .i64 a.edges, .slice p3 a.outer.length r3, .slice p4 a.inner.length r4] 29)).alloc (.cells #[.int .i64 b.roots, .slice q1 b.nodes.length s1, .slice q2 b.sites.length s2, .int .i64 b.edges, .slice q3 b.outer.length s3, .slice q4 b.inner.length s4] 29)).alloc (.cells #[.int .i64 0, .slice none 0 0, .slice none 0 0, .int .i64 0, .slice none 0 0, .slice none 0 0] 29) := ⟨_, rfl⟩
  have BA : Box W0 w.heap.size #[.int .i64 a.roots, .slice p1 a.nodes.length r1, .slice p2 a.sites.length r2, .int .i64 a.edges, .slice p3 a.outer.length r3, .slice p4 a.inner.length r4] 29 := by rw [hW0]; exact ((Box.new _ _ _).alloc _).alloc _
  have BB : Box W0 (w.heap.size + 1) #[.int .i64 b.roots, .slice q1 b.nodes.length s1, .slice q2 b.sites.length s2, .int .i64 b.edges, .slice q3 b.outer.length s3, .slice q4 b.inner.length s4] 29 := by rw [hW0]; exact (Box.new' _ _ _ (by simp)).alloc _
  have BR : Box W0 (w.heap.size + 1 + 1) #[.int .i64 0, .slice none 0 0, .slice none 0 0, .int .i64 0, .slice none 0 0, .slice none 0 0] 29 := by rw [hW0]; exact Box.new' _ _ _ (by simp)
  have hb : Below w.heap.size w W0 := by rw [hW0]; exact bthen (balloc _ _) (bthen (balloc _ _) (balloc _ _))
  have hs0 : w.heap.size + 3 ≤ W0.heap.size := by rw [hW0]; simp
  have H1 := Lib.hid h1
  have H2 := Lib.hid h2
  have H3 := Lib.hid h3
  have h1 := h1.below hb
  have h2 := h2.below hb
  have h3 := h3.below hb
  cases ga : goodB sig a with
  | false =>
    have HK : Hid (cmpK sig a b = false) := by show _ = _; unfold cmpK goodWB; rw [ga]; rfl
    rw [(cmp_no HK.out).1, (cmp_no HK.out).2]
    go_enter Tryz.func15, Tryz.ntmps15
    go_wp2_with fail
    rw [← hW0]
    clear hW0
    have gA := fun y => (BA.gr y).cell
    have gB := fun y => (BB.gr y).cell
    refine wp_region_gr (by kernel_rfl) (by kernel_rfl) ?_
    repeat (go_big_quiet_step (first | (go_at_call 25; exact Calls.gr_of (l2Good_ct _ _ sig a false _ ⟨h1.below (gr_below _ _), h2.below (gr_below _ _)⟩ ga))))
    refine wpQuiet_nil ?_
    intro w2 hb2
    have BR := BR.below hb2
    have hb := bthen hb hb2
    have q := BR.cell
    have f := BR.free
    go_wp2_with fail
    refine bodyPost_ret (v := .tuple #[.agg #[.int .i64 0, .slice none 0 0, .slice none 0 0, .int .i64 0, .slice none 0 0, .slice none 0 0], .bool false]) (by simp [results, Tryz.results15, go_sem, q]) rfl ⟨_, _, rfl, noBig_own _ _, by simp, ?_⟩
    iterate 6 refine Below.setCell ?_ (by dsimp only; omega) _
    exact hb
  | true =>
  cases gb : goodB sig b with
  | false =>
    have HK : Hid (cmpK sig a b = false) := by show _ = _; unfold cmpK goodWB; rw [ga, gb]; simp
    rw [(cmp_no HK.out).1, (cmp_no HK.out).2]
    go_enter Tryz.func15, Tryz.ntmps15
    go_wp2_with fail
    rw [← hW0]
    clear hW0
    have gA := fun y => (BA.gr y).cell
    have gB := fun y => (BB.gr y).cell
    refine wp_region_gr (by kernel_rfl) (by kernel_rfl) ?_
    repeat (go_big_quiet_step (first | (go_at_call 25; exact Calls.gr_of (l2Good_ct _ _ sig a true _ ⟨h1.below (gr_below _ _), h2.below (gr_below _ _)⟩ ga)) | (go_at_call 25; exact Calls.gr_of (l2Good_ct _ _ sig b false _ ⟨h1.below (gr_below _ _), h3.below (gr_below _ _)⟩ gb))))
    refine wpQuiet_nil ?_
    intro w2 hb2
    have BR := BR.below hb2
    have hb := bthen hb hb2
    have q := BR.cell
    have f := BR.free
    go_wp2_with fail
    refine bodyPost_ret (v := .tuple #[.agg #[.int .i64 0, .slice none 0 0, .slice none 0 0, .int .i64 0, .slice none 0 0, .slice none 0 0], .bool false]) (by simp [results, Tryz.results15, go_sem, q]) rfl ⟨_, _, rfl, noBig_own _ _, by simp, ?_⟩
    iterate 6 refine Below.setCell ?_ (by dsimp only; omega) _
    exact hb
  | true =>
  cases wa : wiringB a with
  | false =>
    have HK : Hid (cmpK sig a b = false) := by show _ = _; unfold cmpK goodWB; rw [ga, gb, wa]; simp
    rw [(cmp_no HK.out).1, (cmp_no HK.out).2]
    go_enter Tryz.func15, Tryz.ntmps15
    go_wp2_with fail
    rw [← hW0]
    clear hW0
    have gA := fun y => (BA.gr y).cell
    have gB := fun y => (BB.gr y).cell
    refine wp_region_gr (by kernel_rfl) (by kernel_rfl) ?_
    repeat (go_big_quiet_step (first | (go_at_call 25; exact Calls.gr_of (l2Good_ct _ _ sig a true _ ⟨h1.below (gr_below _ _), h2.below (gr_below _ _)⟩ ga)) | (go_at_call 25; exact Calls.gr_of (l2Good_ct _ _ sig b true _ ⟨h1.below (gr_below _ _), h3.below (gr_below _ _)⟩ gb)) | (go_at_call 56; exact Calls.gr_of (l3Wiring_ct _ a false _ (h2.below (gr_below _ _)) wa))))
    refine wpQuiet_nil ?_
    intro w2 hb2
    have BR := BR.below hb2
    have hb := bthen hb hb2
    have q := BR.cell
    have f := BR.free
    go_wp2_with fail
    refine bodyPost_ret (v := .tuple #[.agg #[.int .i64 0, .slice none 0 0, .slice none 0 0, .int .i64 0, .slice none 0 0, .slice none 0 0], .bool false]) (by simp [results, Tryz.results15, go_sem, q]) rfl ⟨_, _, rfl, noBig_own _ _, by simp, ?_⟩
    iterate 6 refine Below.setCell ?_ (by dsimp only; omega) _
    exact hb
  | true =>
  cases wb : wiringB b with
  | false =>
    have HK : Hid (cmpK sig a b = false) := by show _ = _; unfold cmpK goodWB; rw [ga, gb, wa, wb]; simp
    rw [(cmp_no HK.out).1, (cmp_no HK.out).2]
    go_enter Tryz.func15, Tryz.ntmps15
    go_wp2_with fail
    rw [← hW0]
    clear hW0
    have gA := fun y => (BA.gr y).cell
    have gB := fun y => (BB.gr y).cell
    refine wp_region_gr (by kernel_rfl) (by kernel_rfl) ?_
    repeat (go_big_quiet_step (first | (go_at_call 25; exact Calls.gr_of (l2Good_ct _ _ sig a true _ ⟨h1.below (gr_below _ _), h2.below (gr_below _ _)⟩ ga)) | (go_at_call 25; exact Calls.gr_of (l2Good_ct _ _ sig b true _ ⟨h1.below (gr_below _ _), h3.below (gr_below _ _)⟩ gb)) | (go_at_call 56; exact Calls.gr_of (l3Wiring_ct _ a true _ (h2.below (gr_below _ _)) wa)) | (go_at_call 56; exact Calls.gr_of (l3Wiring_ct _ b false _ (h3.below (gr_below _ _)) wb))))
    refine wpQuiet_nil ?_
    intro w2 hb2
    have BR := BR.below hb2
    have hb := bthen hb hb2
    have q := BR.cell
    have f := BR.free
    go_wp2_with fail
    refine bodyPost_ret (v := .tuple #[.agg #[.int .i64 0, .slice none 0 0, .slice none 0 0, .int .i64 0, .slice none 0 0, .slice none 0 0], .bool false]) (by simp [results, Tryz.results15, go_sem, q]) rfl ⟨_, _, rfl, noBig_own _ _, by simp, ?_⟩
    iterate 6 refine Below.setCell ?_ (by dsimp only; omega) _
    exact hb
  | true =>
  cases sn : sameN (innerN a) b.outer with
  | false =>
    have HK : Hid (cmpK sig a b = false) := by show _ = _; unfold cmpK goodWB; rw [ga, gb, wa, wb, sn]; simp
    rw [(cmp_no HK.out).1, (cmp_no HK.out).2]
    go_enter Tryz.func15, Tryz.ntmps15
    go_wp2_with fail
    rw [← hW0]
    clear hW0
    have b0 := bdrew (Below.refl W0.heap.size W0)
    have BA := BA.below b0
    have BB := BB.below b0
    have BR := BR.below b0
    have h1 := h1.below b0
    have h2 := h2.below b0
    have h3 := h3.below b0
    have hb := bthen hb b0
    clear b0
    go_region_held3 (fun w' => w'.cell? ⟨w.heap.size, 0, none⟩ = some (.int .i64 a.roots) ∧ w'.cell? ⟨w.heap.size, 1, none⟩ = some (.slice p1 a.nodes.length r1) ∧ w'.cell? ⟨w.heap.size, 2, none⟩ = some (.slice p2 a.sites.length r2) ∧ w'.cell? ⟨w.heap.size, 3, none⟩ = some (.int .i64 a.edges) ∧ w'.cell? ⟨w.heap.size, 4, none⟩ = some (.slice p3 a.outer.length r3) ∧ w'.cell? ⟨w.heap.size, 5, none⟩ = some (.slice p4 a.inner.length r4) ∧ w'.cell? ⟨w.heap.size + 1, 0, none⟩ = some (.int .i64 b.roots) ∧ w'.cell? ⟨w.heap.size + 1, 1, none⟩ = some (.slice q1 b.nodes.length s1) ∧ w'.cell? ⟨w.heap.size + 1, 2, none⟩ = some (.slice q2 b.sites.length s2) ∧ w'.cell? ⟨w.heap.size + 1, 3, none⟩ = some (.int .i64 b.edges) ∧ w'.cell? ⟨w.heap.size + 1, 4, none⟩ = some (.slice q3 b.outer.length s3) ∧ w'.cell? ⟨w.heap.size + 1, 5, none⟩ = some (.slice q4 b.inner.length s4)) (first | exact ⟨BA.cell 0, BA.cell 1, BA.cell 2, BA.cell 3, BA.cell 4, BA.cell 5, BB.cell 0, BB.cell 1, BB.cell 2, BB.cell 3, BB.cell 4, BB.cell 5⟩) (first | (go_at_call 25; with_reducible refine (l2Good_ct _ _ sig a true _ ⟨h1, h2⟩ ga).mono ?_; rintro e w2 ⟨rfl, bb⟩; have BA := BA.below bb; have BB := BB.below bb; have BR := BR.below bb; have h1 := h1.below bb; have h2 := h2.below bb; have h3 := h3.below bb; have hb := bthen hb bb; clear bb) | (go_at_call 25; with_reducible refine (l2Good_ct _ _ sig b true _ ⟨h1, h3⟩ gb).mono ?_; rintro e w3 ⟨rfl, bb⟩; have BA := BA.below bb; have BB := BB.below bb; have BR := BR.below bb; have h1 := h1.below bb; have h2 := h2.below bb; have h3 := h3.below bb; have hb := bthen hb bb; clear bb) | (go_at_call 56; with_reducible refine (l3Wiring_ct _ a true _ h2 wa).mono ?_; rintro e w4 ⟨rfl, bb⟩; have BA := BA.below bb; have BB := BB.below bb; have BR := BR.below bb; have h1 := h1.below bb; have h2 := h2.below bb; have h3 := h3.below bb; have hb := bthen hb bb; clear bb) | (go_at_call 56; with_reducible refine (l3Wiring_ct _ b true _ h3 wb).mono ?_; rintro e w5 ⟨rfl, bb⟩; have BA := BA.below bb; have BB := BB.below bb; have BR := BR.below bb; have h1 := h1.below bb; have h2 := h2.below bb; have h3 := h3.below bb; have hb := bthen hb bb; clear bb) | (go_at_call 58; refine (l2Inner_ct _ a _ h2 l1.2.2.2).mono ?_; rintro e w6 ⟨u, rfl, hu, bb⟩; have hu := hu.at; have BA := BA.below bb; have BB := BB.below bb; have BR := BR.below bb; have h1 := h1.below bb; have h2 := h2.below bb; have h3 := h3.below bb; have hb := bthen hb bb; clear bb) | (go_at_call 57; refine (l3SameNames_ct _ _ (innerN a) b.outer false _ hu (BigAt.fields h3).2.2.1 sn).mono ?_; rintro e w7 ⟨rfl, bb⟩; have BA := BA.below bb; have BB := BB.below bb; have BR := BR.below bb; have h1 := h1.below bb; have h2 := h2.below bb; have h3 := h3.below bb; have hb := bthen hb bb; clear bb))
    have q := BR.cell
    have f := BR.free
    go_wp2_with fail
    refine bodyPost_ret (v := .tuple #[.agg #[.int .i64 0, .slice none 0 0, .slice none 0 0, .int .i64 0, .slice none 0 0, .slice none 0 0], .bool false]) (by simp [results, Tryz.results15, go_sem, q]) rfl ⟨_, _, rfl, noBig_own _ _, by simp, ?_⟩
    iterate 6 refine Below.setCell ?_ (by dsimp only; omega) _
    exact hb
  | true =>
  have HK : cmpK sig a b = true := by unfold cmpK goodWB; rw [ga, gb, wa, wb, sn]; simp
  rw [(cmp_yes HK).1, (cmp_yes HK).2]
  have F := fit2_of HK
  have HF := Lib.hid F
  have ea := F.ga.bds.edges
  have eb := F.gb.bds.edges
  have hol := F.ga.bds.outer
  have hil := F.gb.bds.inner
  have HWB := Lib.hid F.gb.bds.wire
  have HSO := Lib.hid (BigAt.fields h2).2.2.1.2
  have HSW := Lib.hid (BigAt.fields h3).2.2.2.1.2
  clear HK F
  go_enter Tryz.func15, Tryz.ntmps15
  go_wp2_with fail
  rw [← hW0]
  clear hW0
  have b0 := bdrew (Below.refl W0.heap.size W0)
  have BA := BA.below b0
  have BB := BB.below b0
  have BR := BR.below b0
  have h1 := h1.below b0
  have h2 := h2.below b0
  have h3 := h3.below b0
  have hb := bthen hb b0
  clear b0
  go_region_held3 (fun w' => w'.cell? ⟨w.heap.size, 0, none⟩ = some (.int .i64 a.roots) ∧ w'.cell? ⟨w.heap.size, 1, none⟩ = some (.slice p1 a.nodes.length r1) ∧ w'.cell? ⟨w.heap.size, 2, none⟩ = some (.slice p2 a.sites.length r2) ∧ w'.cell? ⟨w.heap.size, 3, none⟩ = some (.int .i64 a.edges) ∧ w'.cell? ⟨w.heap.size, 4, none⟩ = some (.slice p3 a.outer.length r3) ∧ w'.cell? ⟨w.heap.size, 5, none⟩ = some (.slice p4 a.inner.length r4) ∧ w'.cell? ⟨w.heap.size + 1, 0, none⟩ = some (.int .i64 b.roots) ∧ w'.cell? ⟨w.heap.size + 1, 1, none⟩ = some (.slice q1 b.nodes.length s1) ∧ w'.cell? ⟨w.heap.size + 1, 2, none⟩ = some (.slice q2 b.sites.length s2) ∧ w'.cell? ⟨w.heap.size + 1, 3, none⟩ = some (.int .i64 b.edges) ∧ w'.cell? ⟨w.heap.size + 1, 4, none⟩ = some (.slice q3 b.outer.length s3) ∧ w'.cell? ⟨w.heap.size + 1, 5, none⟩ = some (.slice q4 b.inner.length s4)) (first | exact ⟨BA.cell 0, BA.cell 1, BA.cell 2, BA.cell 3, BA.cell 4, BA.cell 5, BB.cell 0, BB.cell 1, BB.cell 2, BB.cell 3, BB.cell 4, BB.cell 5⟩) (first | (go_at_call 25; with_reducible refine (l2Good_ct _ _ sig a true _ ⟨h1, h2⟩ ga).mono ?_; rintro e w2 ⟨rfl, bb⟩; have BA := BA.below bb; have BB := BB.below bb; have BR := BR.below bb; have h1 := h1.below bb; have h2 := h2.below bb; have h3 := h3.below bb; have hb := bthen hb bb; clear bb) | (go_at_call 25; with_reducible refine (l2Good_ct _ _ sig b true _ ⟨h1, h3⟩ gb).mono ?_; rintro e w3 ⟨rfl, bb⟩; have BA := BA.below bb; have BB := BB.below bb; have BR := BR.below bb; have h1 := h1.below bb; have h2 := h2.below bb; have h3 := h3.below bb; have hb := bthen hb bb; clear bb) | (go_at_call 56; with_reducible refine (l3Wiring_ct _ a true _ h2 wa).mono ?_; rintro e w4 ⟨rfl, bb⟩; have BA := BA.below bb; have BB := BB.below bb; have BR := BR.below bb; have h1 := h1.below bb; have h2 := h2.below bb; have h3 := h3.below bb; have hb := bthen hb bb; clear bb) | (go_at_call 56; with_reducible refine (l3Wiring_ct _ b true _ h3 wb).mono ?_; rintro e w5 ⟨rfl, bb⟩; have BA := BA.below bb; have BB := BB.below bb; have BR := BR.below bb; have h1 := h1.below bb; have h2 := h2.below bb; have h3 := h3.below bb; have hb := bthen hb bb; clear bb) | (go_at_call 58; refine (l2Inner_ct _ a _ h2 l1.2.2.2).mono ?_; rintro e w6 ⟨u, rfl, hu, bb⟩; have hu := hu.at; have BA := BA.below bb; have BB := BB.below bb; have BR := BR.below bb; have h1 := h1.below bb; have h2 := h2.below bb; have h3 := h3.below bb; have hb := bthen hb bb; clear bb) | (go_at_call 57; refine (l3SameNames_ct _ _ (innerN a) b.outer true _ hu (BigAt.fields h3).2.2.1 sn).mono ?_; rintro e w7 ⟨rfl, bb⟩; have BA := BA.below bb; have BB := BB.below bb; have BR := BR.below bb; have h1 := h1.below bb; have h2 := h2.below bb; have h3 := h3.below bb; have hb := bthen hb bb; clear bb))
  clear ga gb wa wb sn
  have hs1 : w.heap.size + 3 ≤ w7.heap.size := BR.lt
  have hbw := hb
  have HOA := Lib.hid (BigAt.fields h2).2.2.1
  have e1 : IntKind.i64.wrap (a.edges + b.edges) = a.edges + b.edges := Go.IntWalk.i64_in _ (by omega)
  obtain ⟨_, _, ew, _, _, Hw⟩ := (BigAt.fields H3.out).2.2.2.1.open
  obtain ⟨rfl, rfl⟩ := (by simpa using ew : q4 = _ ∧ s4 = _)
  have HW := Lib.hid Hw
  clear ew Hw hu
  go_wp2_with fail
  have gA3 := fun y => gr_cell (w := w7) (BA.cell 3) y
  have gA4 := fun y => gr_cell (w := w7) (BA.cell 4) y
  have gB3 := fun y => gr_cell (w := w7) (BB.cell 3) y
  refine rg_region [0, 1, 2, 3, 4, 5, 6, 7, 8, 9, 10] [11] (lo := (.cons _ .nil)) (by rfl) (tAt 5 (eLit0) (tAt 8 (eRow w7.heap.size 1 a.outer.length (strRows a.outer) (len_strRows _)) (tAt 10 (ePtr w7.heap.size #[.int .i64 0, .slice none 0 0, .slice none 0 0, .int .i64 0, .slice none 0 0, .slice none 0 0] 29) tNil))) (by kernel_rfl) (by rfl) (by kernel_rfl) ?_
  refine rg_quiet anti_end [0, 1, 2, 3, 4] [5, 6, 7, 8, 9, 10] (lo := (.cons _ (.cons _ (.cons _ (.cons _ (.cons _ .nil)))))) (by rfl) (by kernel_rfl) ?_
  repeat (go_big_quiet_step (fail))
  refine wpQuiet_nil ?_
  refine rg_made 5 rfl rfl ?_ ?_
  · rintro w' ⟨y, rfl⟩ hd
    exact ⟨_, _, by simp [go_sem]; exact ⟨rfl, rfl⟩, balloc _ _, _, rfl⟩
  intro v hv
  obtain ⟨g1, rfl⟩ : ∃ g, v = .slice (some ⟨g, 0, none⟩) 0 0 := hv
  simp only [Act.put, List.setIfInBounds_toArray, List.set_cons_zero, List.set_cons_succ]
  refine rg_quiet anti_end [6, 7] [8, 9, 10] (lo := (.cons _ (.cons _ .nil))) (by rfl) (by kernel_rfl) ?_
  repeat (go_big_quiet_step (fail))
  refine wpQuiet_nil ?_
  refine rg_made 8 rfl rfl ?_ ?_
  · rintro w' ⟨y, rfl⟩ hd
    exact rg_app0 (.tmp 44) (.tmp 46) 26 (by rfl) 9 1 16 1073741824 w7.heap.size (.string ⟨#[]⟩) Tryz.underlying26 inf_str rfl (by decide) (by decide) _ _ (strRows a.outer) (by rfl) (by rfl) (one_strRows _) (by rw [len_strRows]; omega) _ (HOA.out.below (gr_below _ _)).1 (gr_below _ _).size
  intro v hv
  obtain ⟨ka, kc, rfl⟩ : ∃ a' c', v = .slice a' a.outer.length c' := hv
  simp only [Act.put, List.setIfInBounds_toArray, List.set_cons_zero, List.set_cons_succ]
  refine rg_quiet anti_end [9] [10] (lo := (.cons _ .nil)) (by rfl) (by kernel_rfl) ?_
  repeat (go_big_quiet_step (fail))
  refine wpQuiet_nil ?_
  refine rg_made 10 rfl rfl ?_ ?_
  · rintro w' ⟨y, rfl⟩ hd
    exact ⟨_, _, by simp [go_sem]; try exact ⟨rfl, rfl⟩, balloc _ _, _, rfl, Box.new _ _ _, (gr_below _ _).size, Nat.le_refl _, by simp⟩
  intro v hv
  obtain ⟨go6, rfl⟩ : ∃ g, v = .pointer (some ⟨g, 0, none⟩) := hv
  simp only [Act.put, List.setIfInBounds_toArray, List.set_cons_zero, List.set_cons_succ]
  intro w8 U hb8 hF
  obtain ⟨UA, UB, dd, _, ⟨UC, UD, _, uu, _, hK, cK⟩, go6', e0, BO, hgo, nU⟩ := hF
  obtain rfl : go6 = go6' := by simpa using e0
  have hK : RowOwn w7.heap.size w8 (.slice ka a.outer.length kc) 1 (strRows a.outer) := hK
  have HG3 : Hid (∀ p ∈ blks (.slice ka a.outer.length kc), p ≠ go6) := fun p hp e => dd p ((uu p).2 (.inr (cK p hp))) (e ▸ nU)
  clear dd uu cK nU e0 gA3 gA4 gB3
  have BA := BA.below hb8
  have BB := BB.below hb8
  have BR := BR.below hb8
  have hb := bthen hb hb8
  have qO := BO.cell
  have fO := BO.free
  have hgl := BO.lt
  have hs8 := hb8.size
  clear hb8
  go_wp2_with fail
  obtain ⟨W9, hW9, BO, o9⟩ := box_fill BO (.int .i64 0) (.slice none 0 0) (.slice none 0 0) (.int .i64 (a.edges + b.edges)) (.slice ka a.outer.length kc) (.slice none 0 0)
  rw [← hW9]
  have hlt3 := hK.lt
  have hK := hK.keep (fun p hp => o9.block p (hlt3 p hp).2 (fun h => HG3.out p hp (List.mem_singleton.1 h)))
  have BA := BA.keep (o9.block _ BA.lt (fun h => by have := List.mem_singleton.1 h; omega))
  have BB := BB.keep (o9.block _ BB.lt (fun h => by have := List.mem_singleton.1 h; omega))
  have BR := BR.keep (o9.block _ BR.lt (fun h => by have := List.mem_singleton.1 h; omega))
  have hb := hb.trans (o9.below (fun p hp => by have := List.mem_singleton.1 hp; omega) (by omega))
  have hs9 := Nat.le_trans hs8 o9.size
  obtain ⟨n0, hn0⟩ : ∃ n, n = W9.heap.size := ⟨_, rfl⟩
  have hKl : Hid (∀ p ∈ blks (.slice ka a.outer.length kc), w7.heap.size ≤ p ∧ p < n0) := fun p hp => by have := hK.lt p hp; omega
  have hgn : go6 < n0 := by have := BO.lt; omega
  have hn9 : n0 ≤ W9.heap.size := by omega
  clear hW9 o9 hlt3 qO fO hs8 hn0 hgl
  go_loopw [9] (fun i W => ∃ k : Nat, k ≤ b.inner.length ∧ i = .int .i64 k ∧ Below w.heap.size w W ∧ n0 ≤ W.heap.size ∧ Box W w.heap.size #[.int .i64 a.roots, .slice p1 a.nodes.length r1, .slice p2 a.sites.length r2, .int .i64 a.edges, .slice p3 a.outer.length r3, .slice p4 a.inner.length r4] 29 ∧ Box W (w.heap.size + 1) #[.int .i64 b.roots, .slice q1 b.nodes.length s1, .slice q2 b.sites.length s2, .int .i64 b.edges, .slice q3 b.outer.length s3, .slice q4 b.inner.length s4] 29 ∧ Box W (w.heap.size + 1 + 1) #[.int .i64 0, .slice none 0 0, .slice none 0 0, .int .i64 0, .slice none 0 0, .slice none 0 0] 29 ∧ RowOwn w7.heap.size W (.slice ka a.outer.length kc) 1 (strRows a.outer) ∧ ∃ av cv, Box W go6 #[.int .i64 0, .slice none 0 0, .slice none 0 0, .int .i64 (a.edges + b.edges), .slice ka a.outer.length kc, .slice av k cv] 29 ∧ Acc W n0 87 2 (.slice av k cv) (cmpRows a b k)) (fun i _ => b.inner.length - (intOf i).toNat)
  case atStart => exact ⟨0, Nat.zero_le _, rfl, hb, hn9, BA, BB, BR, hK, none, 0, BO, by rw [cmpRows_zero]; exact Acc.nil _ _ _ _⟩
  case round =>
    clear BA BB BR BO hb hK hn9 hs9
    obtain ⟨k, hk, rfl, hb, hn9, BA, BB, BR, hK, av, cv, BO, acc⟩ := hrel
    have HL : Hid ((cmpRows a b k).length = k) := cmpRows_len hk
    by_cases hkl : k < b.inner.length
    · obtain ⟨x, hx⟩ := getElem?_of_lt hkl
      have HXM : Hid (x ∈ b.inner) := List.mem_of_getElem? hx
      have HT : Hid (cmpRows a b (k + 1) = cmpRows a b k ++ [[.string x.name, .int .i64 (thrF a b x.link)]]) := cmpRows_snoc hx
      obtain ⟨_, _, ob, oo, rfl, hc0, hc1⟩ := HW.out k x hx
      have g1 := (hb.cell (World.block_lt_of_cell? w _ hc0)).trans hc0
      have g2 := (hb.cell (World.block_lt_of_cell? w _ hc1)).trans hc1
      have q := BO.cell
      have qB := BB.cell
      clear hx hc0 hc1
      go_wp2_with fail
      clear q qB
      have gc1 := fun z => gr_cell (w := wr) g1 z
      have gc2 := fun z => gr_cell (w := wr) g2 z
      have gO5 := fun z => gr_cell (w := wr) (BO.cell 5) z
      have gA := fun y => (BA.gr y).cell
      have gB := fun y => (BB.gr y).cell
      refine rg_region [0, 1, 2, 3, 4, 5, 6, 7, 8, 9, 10, 11, 12, 13, 14, 15, 16, 17, 18] [19, 20, 21] (lo := (.cons _ (.cons _ (.cons _ .nil)))) (by rfl) (tAt 16 (eVal (.int .i64 (thrF a b x.link))) (tAt 18 (eLit1 [.string x.name, .int .i64 (thrF a b x.link)] 87) tNil)) (by kernel_rfl) (by rfl) (by kernel_rfl) ?_
      refine rg_quiet anti_end [0, 1, 2, 3, 4, 5, 6, 7, 8, 9, 10, 11, 12, 13, 14, 15] [16, 17, 18] (lo := (.cons _ (.cons _ (.cons _ (.cons _ (.cons _ (.cons _ (.cons _ (.cons _ (.cons _ (.cons _ (.cons _ (.cons _ (.cons _ (.cons _ (.cons _ (.cons _ .nil))))))))))))))))) (by rfl) (by kernel_rfl) ?_
      repeat (go_big_quiet_step (fail))
      refine wpQuiet_nil ?_
      refine rg_call 16 rfl rfl 59 #[.agg #[.int .i64 a.roots, .slice p1 a.nodes.length r1, .slice p2 a.sites.length r2, .int .i64 a.edges, .slice p3 a.outer.length r3, .slice p4 a.inner.length r4], .agg #[.int .i64 b.roots, .slice q1 b.nodes.length s1, .slice q2 b.sites.length s2, .int .i64 b.edges, .slice q3 b.outer.length s3, .slice (some ⟨ob, oo, none⟩) b.inner.length s4], .int .i64 x.link] ?_ ?_ ?_
      · intro w; simp [go_sem]
      · rintro w' ⟨y, rfl⟩ hd
        refine (l3Through_ct _ _ sig a b x.link _ (H2.out.below (bthen hb (gr_below _ _))) (H3.out.below (bthen hb (gr_below _ _))) HF.out (HWB.out x HXM.out)).mono ?_
        rintro e w3 ⟨rfl, bb⟩
        exact ⟨_, rfl, bb, rfl⟩
      intro v hv
      obtain rfl : v = .int .i64 (thrF a b x.link) := hv
      simp only [Act.put, List.setIfInBounds_toArray, List.set_cons_zero, List.set_cons_succ]
      refine rg_quiet anti_end [17] [18] (lo := (.cons _ .nil)) (by rfl) (by kernel_rfl) ?_
      repeat (go_big_quiet_step (fail))
      refine wpQuiet_nil ?_
      refine rg_made 18 rfl rfl ?_ ?_
      · rintro w' ⟨y, rfl⟩ hd
        exact ⟨_, _, by simp [go_sem]; try (first | exact ⟨rfl, rfl⟩ | rfl), balloc _ _, _, rfl, Box.new _ _ _, Nat.le_refl _, by simp⟩
      intro v hv
      obtain ⟨gl, rfl⟩ : ∃ g, v = .slice (some ⟨g, 0, none⟩) 1 1 := hv
      simp only [Act.put, List.setIfInBounds_toArray, List.set_cons_zero, List.set_cons_succ]
      intro w4 U hb3 hF
      obtain ⟨_, _, _, _, _, hF⟩ := hF
      obtain ⟨gl', e0, BL, _⟩ : ∃ g, Value.slice (some ⟨gl, 0, none⟩) 1 1 = .slice (some ⟨g, 0, none⟩) 1 1 ∧ Box w4 g #[.string x.name, .int .i64 (thrF a b x.link)] 87 ∧ _ := hF
      obtain rfl : gl = gl' := by simpa using e0
      clear e0 gc1 gc2 gO5 gA gB g1 g2
      have BA := BA.below hb3
      have BB := BB.below hb3
      have BR := BR.below hb3
      have BO := BO.below hb3
      have acc := acc.below hb3
      have hK := hK.keep (keep_below hb3 (fun p hp => (hK.lt p hp).2))
      have hb := bthen hb hb3
      have hn9 := Nat.le_trans hn9 hb3.size
      go_wp2_with (at_builtin; refine appR _ rfl (.tmp 57) (.tmp 74) 27 rfl n0 87 2 24 1 (.agg #[.string ⟨#[]⟩, .int .i64 0]) Tryz.underlying27 inf_wr rfl (by decide) (by decide) _ (cmpRows a b k) (by rfl) acc _ [[.string x.name, .int .i64 (thrF a b x.link)]] (by rfl) (rowAt_one (row := [.string x.name, .int .i64 (thrF a b x.link)]) BL (by decide)) (by simp [Value.oneCell']) (by rw [HL.out]; simp; omega) hn9 ?_)
      intro v2 w5 acc2 hg _
      rw [← HT.out] at acc2
      obtain ⟨av2, cv2, rfl⟩ := acc2.shape
      rw [cmpRows_len (by omega)] at acc2 ⊢
      have hb2 := grown_below hb acc hg (by omega) (by omega)
      have hs2 := Nat.le_trans hn9 hg.size
      have BA2 := BA.keep (grown_block acc hg (by omega) BA.lt)
      have BB2 := BB.keep (grown_block acc hg (by omega) BB.lt)
      have BR2 := BR.keep (grown_block acc hg (by omega) BR.lt)
      have BO2 := BO.keep (grown_block acc hg (by omega) BO.lt)
      have hK2 := hK.keep (fun p hp => grown_block acc hg (hKl.out p hp).2 (hK.lt p hp).2)
      clear acc hg BA BB BR BO hb hn9 BL hb3 hK
      have q := BO2.cell
      have f := BO2.free
      go_wp2_with fail
      go_roundw
      case rel => exact ⟨k + 1, by omega, by go_num, hb2.setCell (by dsimp only; omega) _, by simpa [size_setCell] using hs2, BA2.other _ (by dsimp only; omega), BB2.other _ (by dsimp only; omega), BR2.other _ (by dsimp only; omega), hK2.keep (keep_setCell (fun h => HG3.out _ h rfl)), _, _, BO2.set 5 _, acc2.keep (fun j hj _ => heap_setCell_other _ _ _ _ (by dsimp only; omega))⟩
      case measure => simp [intOf]; omega
    · have e : k = b.inner.length := by omega
      subst e
      have hBO : BigOwn w7.heap.size wr (.agg #[.int .i64 0, .slice none 0 0, .slice none 0 0, .int .i64 (a.edges + b.edges), .slice ka a.outer.length kc, .slice av b.inner.length cv]) (cmpR a b) ([] ++ blks (.slice none 0 0) ++ blks (.slice ka a.outer.length kc) ++ blks (.slice av b.inner.length cv)) := by
        rw [cmpRows_full] at acc
        have hwn : n0 ≥ w7.heap.size := by omega
        exact ⟨.slice none 0 0, .slice none 0 0, .slice ka a.outer.length kc, .slice av b.inner.length cv, [], by unfold cmpR; simp, nds_none _ _, ints_none _ _, ⟨hK, by show a.outer.length ≤ _; omega, HSO.out⟩, ⟨acc.own.mono hwn, by show (b.inner.map _).length ≤ _; rw [List.length_map]; omega, fun c hc => by
          obtain ⟨y, hy, rfl⟩ := List.mem_map.1 hc
          have := HF.out.bd (HWB.out y hy)
          exact ⟨(HSW.out y hy).1, by unfold I64; dsimp only; omega⟩⟩, by unfold I64; show _ ≤ (0 : Int) ∧ (0 : Int) ≤ _; omega, by unfold I64; show _ ≤ a.edges + b.edges ∧ a.edges + b.edges ≤ _; omega, rfl⟩
      have hND : ([] ++ blks (.slice none 0 0) ++ blks (.slice ka a.outer.length kc) ++ blks (.slice av b.inner.length cv)).Nodup := by
        have e0 : blks (.slice none 0 0) = [] := rfl
        rw [e0, List.nil_append, List.nil_append, List.nodup_append]
        exact ⟨blks_nodup _ _ _, blks_nodup _ _ _, fun p hp q hq e => by have := hKl.out p hp; have := (acc.own.lt q hq).1; omega⟩
      have HGV := Lib.hid (l2Give_ct vs _ sig (cmpR a b) wr ⟨H1.out.below hb, hBO.at⟩ hBO hND (by omega))
      have q := BO.cell
      have qB := BB.cell
      clear hBO hND acc
      go_wp2_with fail
      refine HGV.out.mono ?_
      rintro e w10 ⟨u, bs', rfl, hB, hN, b10⟩
      obtain ⟨d1, k1, d2, k2, d3, k3, d4, k4, rfl⟩ := hB.at.shape
      have BR := BR.below b10
      have hb := bthen hb b10
      have q2 := BR.cell
      have f2 := BR.free
      clear HGV q qB b10
      go_wp2_with fail
      refine bodyPost_ret (v := .tuple #[.agg #[.int .i64 (validR sig (cmpR a b)).roots, .slice d1 (validR sig (cmpR a b)).nodes.length k1, .slice d2 (validR sig (cmpR a b)).sites.length k2, .int .i64 (validR sig (cmpR a b)).edges, .slice d3 (validR sig (cmpR a b)).outer.length k3, .slice d4 (validR sig (cmpR a b)).inner.length k4], .bool (goodB sig (cmpR a b))]) (by simp [results, Tryz.results15, go_sem, q2]) rfl ⟨_, bs', rfl, (fill6 hB (by omega) _ _ _ _ _ _).mono (by omega), hN, fill6b hb (by omega) _ _ _ _ _ _⟩
end Go.Proofs.YthgelhglfbgagaaGreatDoor
