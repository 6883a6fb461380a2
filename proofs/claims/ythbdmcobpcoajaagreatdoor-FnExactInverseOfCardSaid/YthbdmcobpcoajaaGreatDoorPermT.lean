/- Whether a bigraph is a permutation: each root holds one site. -/
import Derived.Test.YthbdmcobpcoajaaGreatDoorKids
import Derived.Test.YthbdmcobpcoajaaGreatDoorOrder4
import Derived.Deep.RegionHeld3
namespace Go.Proofs.YthbdmcobpcoajaaGreatDoor
open Go Go.RowKit Go.BigFrame

def unders (b : Big) : List Int := b.sites.map fun p => -1 - p
theorem unders_get {b : Big} {k : Nat} {x : Int} (h : b.sites[k]? = some x) : (unders b)[k]? = some (-1 - x) := by simp [unders, h]
theorem unders_len (b : Big) : (unders b).length = b.sites.length := by simp [unders]
def permB (b : Big) : Bool := placingB b && (eachB (unders b) && decide (((unders b).length : Int) = b.roots))
theorem holes_count (b : Big) (p : Int) : ∀ k, k ≤ b.sites.length → (pickN (holeF b p) k).length = (b.sites.take k).count p
  | 0, _ => by simp [pickN]
  | k + 1, h => by
    obtain ⟨x, hx⟩ := getElem?_of_lt (show k < b.sites.length by omega)
    have ih := holes_count b p k (by omega)
    rw [take_snoc_l hx, List.count_append]
    by_cases e : x = p
    · rw [pickN_yes (by unfold holeF; rw [hx]; simpa using e), List.length_append, ih]; simp [e]
    · rw [pickN_no (by unfold holeF; rw [hx]; simpa using e), ih]
      have : List.count p [x] = 0 := by simp [List.count_cons, e]
      omega
theorem holes_one (b : Big) (p : Int) : (holesL b p).length = b.sites.count p := by
  unfold holesL; rw [holes_count b p _ (Nat.le_refl _), List.take_of_length_le (Nat.le_refl _)]
theorem unders_count (b : Big) (j : Nat) : b.sites.count (-1 - (j : Int)) = (unders b).count (j : Int) := by
  unfold unders
  generalize b.sites = l
  induction l with
  | nil => rfl
  | cons x l ih =>
    rw [List.map_cons, List.count_cons, List.count_cons, ih]
    by_cases e : x = -1 - (j : Int)
    · rw [if_pos (by simpa using e), if_pos (by simp only [beq_iff_eq]; omega)]
    · rw [if_neg (by simpa using e), if_neg (by simp only [beq_iff_eq]; omega)]
theorem each_of_holes {b : Big} {n : Nat} (h : ∀ j : Nat, j < n → (holesL b (-1 - (j : Int))).length = 1) (hn : b.sites.length = n) : eachB (unders b) = true := by
  unfold eachB
  rw [List.all_eq_true]
  intro j hj
  have hj' : j < n := by have := List.mem_range.1 hj; rw [unders_len] at this; omega
  have := h j hj'
  rw [holes_one, unders_count] at this
  have : 0 < (unders b).count (j : Int) := by omega
  simpa using List.count_pos_iff.1 this
theorem holes_of_each {b : Big} {n : Nat} (h : eachB (unders b) = true) (hn : b.sites.length = n) (j : Nat) (hj : j < n) : (holesL b (-1 - (j : Int))).length = 1 := by
  rw [holes_one, unders_count]
  have hp : (unders b).Perm (idxL n) := by
    have := (each_iff _).1 h
    rw [unders_len, hn] at this
    rw [← this]
    exact (List.mergeSort_perm _ _).symm
  rw [hp.count_eq]
  have hm : (j : Int) ∈ idxL n := by unfold idxL; exact List.mem_map.2 ⟨j, List.mem_range.2 hj, rfl⟩
  exact List.Nodup.count (idxL_nodup n) |>.trans (by simp [hm])
theorem permB_no {b : Big} {j : Nat} (hj : (j : Int) < b.roots) (h : (holesL b (-1 - (j : Int))).length ≠ 1) : permB b = false := by
  cases hp : permB b with
  | false => rfl
  | true =>
    exfalso
    unfold permB at hp
    simp only [Bool.and_eq_true, decide_eq_true_eq, unders_len] at hp
    exact h (holes_of_each hp.2.1 rfl j (by omega))
theorem permB_yes {b : Big} {n : Nat} (hn : b.roots = n) (h : ∀ j : Nat, j < n → (holesL b (-1 - (j : Int))).length = 1) : permB b = (placingB b && decide ((b.sites.length : Int) = b.roots)) := by
  unfold permB
  rw [unders_len]
  by_cases e : (b.sites.length : Int) = b.roots
  · rw [each_of_holes h (by omega), Bool.true_and]
  · rw [decide_eq_false e, Bool.and_false]

theorem sites_bd {sig : List Ctl} {b : Big} (h : Good sig b) : ∀ x ∈ b.sites, -1000 ≤ x ∧ x ≤ 1000 := fun x hx => by
  have h1 := h.site x hx
  have h2 := h.nodes
  have h3 := h.roots
  unfold underB at h1
  split at h1
  · simp only [decide_eq_true_eq] at h1; omega
  · simp only [Bool.and_eq_true, decide_eq_true_eq] at h1; omega

set_option maxRecDepth 100000 in
set_option maxHeartbeats 2000000 in
theorem under_ct (v : Value) (b : Big) (w : World) (h : BigAt w v b) (hl : b.sites.length ≤ 100) (hx : ∀ x ∈ b.sites, -1000 ≤ x ∧ x ≤ 1000) :
    Calls Tryz.prog 59 #[v] w fun e w' => ∃ u, e = .returned u ∧ IntsOwn w.heap.size w' u (unders b) ∧ Below w.heap.size w w' := by
  obtain ⟨a1, c1, a2, c2, a3, c3, a4, c4, rfl, _, hsit, _, _, _, _⟩ := h.parts
  obtain ⟨_, _, e', h1, h2, h3⟩ := hsit.open
  obtain ⟨rfl, rfl⟩ := (by simpa using e' : a2 = _ ∧ c2 = _)
  have HX : Hid (∀ x ∈ b.sites, -1000 ≤ x ∧ x ≤ 1000) := hx
  clear e' hsit h hx
  go_enter Tryz.func59, Tryz.ntmps59
  go_wp2_with fail
  obtain ⟨W0, hW0⟩ : ∃ W, W = (w.alloc (.cells #[.int .i64 b.roots, .slice a1 b.nodes.length c1, .slice a2 b.sites.length c2, .int .i64 b.edges, .slice a3 b.outer.length c3, .slice a4 b.inner.length c4] 34)).alloc (.cells #[] 3) := ⟨_, rfl⟩
  rw [← hW0]
  have BA : Box W0 w.heap.size #[.int .i64 b.roots, .slice a1 b.nodes.length c1, .slice a2 b.sites.length c2, .int .i64 b.edges, .slice a3 b.outer.length c3, .slice a4 b.inner.length c4] 34 := by rw [hW0]; exact (Box.new _ _ _).alloc _
  have acc : Acc W0 (w.heap.size + 1) 3 1 (.slice (some ⟨w.heap.size + 1, 0, none⟩) 0 0) (intRows ((unders b).take 0)) := by
    rw [hW0]; simpa [intRows] using Acc.lit0 (w.alloc (.cells #[.int .i64 b.roots, .slice a1 b.nodes.length c1, .slice a2 b.sites.length c2, .int .i64 b.edges, .slice a3 b.outer.length c3, .slice a4 b.inner.length c4] 34)) (w.heap.size + 1) 3 1 (by simp)
  have hb : Below w.heap.size w W0 := by rw [hW0]; exact bthen (balloc _ _) (balloc _ _)
  have hs : w.heap.size + 1 ≤ W0.heap.size := by rw [hW0]; simp
  clear hW0
  go_loopw [3, 5, 10] (fun o _ i W => ∃ k : Nat, k ≤ b.sites.length ∧ i = .int .i64 k ∧ Below w.heap.size w W ∧ w.heap.size + 1 ≤ W.heap.size ∧ Box W w.heap.size #[.int .i64 b.roots, .slice a1 b.nodes.length c1, .slice a2 b.sites.length c2, .int .i64 b.edges, .slice a3 b.outer.length c3, .slice a4 b.inner.length c4] 34 ∧ Acc W (w.heap.size + 1) 3 1 o (intRows ((unders b).take k))) (fun _ _ i _ => b.sites.length - (intOf i).toNat)
  case atStart => exact ⟨0, Nat.zero_le _, rfl, hb, hs, BA, acc⟩
  case round =>
    clear hb hs BA acc W0
    obtain ⟨k, hk, rfl, hb, hs, BA, acc⟩ := hrel
    obtain ⟨av, cv, rfl⟩ := acc.shape
    have HL : Hid ((intRows ((unders b).take k)).length = k) := by show _ = _; simp [intRows, unders]; omega
    rw [HL.out] at acc ⊢
    by_cases hlt : k < b.sites.length
    · obtain ⟨x, hx⟩ := getElem?_of_lt hlt
      have hxb := HX.out x (List.mem_of_getElem? hx)
      obtain ⟨_, bk, o', rfl, hc0⟩ := h3 k x hx
      have g0 := (hb.cell (World.block_lt_of_cell? w _ hc0)).trans hc0
      have HT : Hid (intRows ((unders b).take (k + 1)) = intRows ((unders b).take k) ++ [[.int .i64 (-1 - x)]]) := by show _ = _; rw [take_snoc_l (unders_get hx)]; simp [intRows]
      have q := BA.cell
      clear hc0 h3 hx
      go_wp2_with (at_builtin; refine app1g _ _ rfl (.tmp 14) (.tmp 17) 24 rfl (w.heap.size + 1) 3 1 8 (.int .i64 0) Tryz.underlying24 inf_int rfl (by decide) (by decide) _ (intRows ((unders b).take k)) (by rfl) acc [.int .i64 (-1 - x)] _ rfl (by simp [Value.oneCell']) (by rfl) (by first | rfl | simp) (by rw [HL.out]; omega) hs ?_)
      intro g cc w2 acc2 hg
      rw [HL.out, ← HT.out] at acc2
      rw [HL.out]
      have hb2 := grown_below hb acc hg (by omega) (by omega)
      have hs2 : w.heap.size + 1 ≤ w2.heap.size := Nat.le_trans hs hg.size
      have BA2 := BA.keep (grown_block acc hg (by omega) BA.lt)
      clear acc hg BA q hb hs
      go_wp2_with fail
      go_roundw
      case rel => exact ⟨k + 1, by omega, by go_num, hb2, hs2, BA2, acc2⟩
      case measure => simp [intOf]; omega
    · have e : k = b.sites.length := by omega
      subst e
      have hT : (unders b).take b.sites.length = unders b := List.take_of_length_le (by simp [unders])
      rw [hT] at acc
      clear hT h3
      have q := BA.cell
      go_wp2_with fail
      go_ret
      exact ⟨_, rfl, ⟨acc.own.mono (by omega), by simp [unders]; omega, fun x hx => by simp only [unders, List.mem_map] at hx; obtain ⟨y, hy, rfl⟩ := hx; have := HX.out y hy; unfold I64; omega⟩, hb⟩

set_option maxRecDepth 100000 in
set_option maxHeartbeats 4000000 in
theorem l3Permutes_ct (v : Value) (b : Big) (r : Bool) (w : World) (h : BigAt w v b) (hro : 0 ≤ b.roots ∧ b.roots ≤ 4) (hs4 : b.sites.length ≤ 4) (hr : permB b = r) : Calls Tryz.prog 51 #[v] w fun e w' => e = .returned (.bool r) ∧ Below w.heap.size w w' := by
  have HR : Hid (permB b = r) := hr
  clear hr
  have l1 := h.lens
  obtain ⟨a1, c1, a2, c2, a3, c3, a4, c4, rfl⟩ := h.shape
  obtain ⟨n, hn⟩ : ∃ n : Nat, b.roots = n := ⟨b.roots.toNat, by omega⟩
  have hn4 : n ≤ 4 := by omega
  have HM : Hid (b.roots = n) := hn
  rw [hn] at h ⊢
  clear hn hro
  go_enter Tryz.func51, Tryz.ntmps51
  go_wp2_with fail
  obtain ⟨W0, hW0⟩ : ∃ W, W = w.alloc (.cells #[.int .i64 n, .slice a1 b.nodes.length c1, .slice a2 b.sites.length c2, .int .i64 b.edges, .slice a3 b.outer.length c3, .slice a4 b.inner.length c4] 34) := ⟨_, rfl⟩
  rw [← hW0]
  have BA : Box W0 w.heap.size #[.int .i64 n, .slice a1 b.nodes.length c1, .slice a2 b.sites.length c2, .int .i64 b.edges, .slice a3 b.outer.length c3, .slice a4 b.inner.length c4] 34 := by rw [hW0]; exact Box.new _ _ _
  have hb : Below w.heap.size w W0 := by rw [hW0]; exact balloc _ _
  clear hW0
  go_loopw [3] (fun i W => ∃ k : Nat, k ≤ n ∧ i = .int .i64 k ∧ Hid (∀ j : Nat, j < k → (holesL b (-1 - (j : Int))).length = 1) ∧ Below w.heap.size w W ∧ Box W w.heap.size #[.int .i64 n, .slice a1 b.nodes.length c1, .slice a2 b.sites.length c2, .int .i64 b.edges, .slice a3 b.outer.length c3, .slice a4 b.inner.length c4] 34) (fun i _ => n - (intOf i).toNat)
  case atStart => exact ⟨0, Nat.zero_le _, rfl, fun j hj => absurd hj (Nat.not_lt_zero _), hb, BA⟩
  case round =>
    clear hb BA W0
    obtain ⟨k, hk, rfl, HK, hb, BA⟩ := hrel
    have q := BA.cell
    by_cases hlt : k < n
    · have hx := h.below hb
      by_cases h1 : (holesL b (-1 - (k : Int))).length = 1
      · have HT : Hid (∀ j : Nat, j < k + 1 → (holesL b (-1 - (j : Int))).length = 1) := fun j hj => by
          by_cases e : j = k
          · subst e; exact h1
          · exact HK.out j (by omega)
        have H1 : Hid ((pickN (holeF b (-1 - (k : Int))) b.sites.length).length = 1) := h1
        clear HK h1
        go_wp2_with fail
        refine (l2Holes_ct _ b (-1 - (k : Int)) _ hx (by unfold I64; omega) (by omega)).mono ?_
        rintro e w2 ⟨u, rfl, hu, hb2⟩
        obtain ⟨ua, uc, rfl⟩ := hu.shape
        rw [H1.out]
        have BA := BA.below hb2
        have hb := bthen hb hb2
        clear q hu
        go_wp2_with fail
        go_roundw
        case rel => exact ⟨k + 1, by omega, by go_num, HT, hb, BA⟩
        case measure => simp [intOf]; omega
      · have HN : Hid (r = false) := by show _ = _; rw [← HR.out]; exact permB_no (by rw [HM.out]; omega) h1
        obtain ⟨m, hm⟩ : ∃ m, m = (pickN (holeF b (-1 - (k : Int))) b.sites.length).length := ⟨_, rfl⟩
        have hm1 : ((m : Int) != 1) = true := by rw [bne_iff_ne]; intro e; exact h1 (by show (pickN _ _).length = 1; omega)
        have hml : m ≤ 4 := by rw [hm]; exact Nat.le_trans (pickN_len _ _) hs4
        clear HK h1
        go_wp2_with fail
        refine (l2Holes_ct _ b (-1 - (k : Int)) _ hx (by unfold I64; omega) (by omega)).mono ?_
        rintro e w2 ⟨u, rfl, hu, hb2⟩
        obtain ⟨ua, uc, rfl⟩ := hu.shape
        rw [← hm]
        have hb := bthen hb hb2
        clear q hu hm
        go_wp2_with fail
        go_ret
        exact ⟨by rw [HN.out]; rfl, hb⟩
    · have e : k = n := by omega
      subst e
      have HP : Hid (permB b = (placingB b && decide ((b.sites.length : Int) = b.roots))) := permB_yes HM.out HK.out
      have hx := h.below hb
      clear HK
      cases hp : placingB b with
      | false =>
        have HN : Hid (r = false) := by show _ = _; rw [← HR.out, HP.out, hp]; rfl
        go_wp2_with fail
        refine (l3Placing_ct _ b false _ hx hp).mono ?_
        rintro e w2 ⟨rfl, hb2⟩
        go_wp2_with fail
        go_ret
        exact ⟨by rw [HN.out]; rfl, bthen hb hb2⟩
      | true =>
        have HN : Hid (decide ((b.sites.length : Int) = (k : Int)) = r) := by show _ = _; rw [← HR.out, HP.out, hp, Bool.true_and, HM.out]
        go_wp2_with fail
        refine (l3Placing_ct _ b true _ hx hp).mono ?_
        rintro e w2 ⟨rfl, hb2⟩
        have q := (BA.below hb2).cell
        go_wp2_with fail
        go_ret
        exact ⟨ret_bool (by rw [← HN.out, Bool.eq_iff_iff]; simp only [beq_iff_eq, decide_eq_true_eq]), bthen hb hb2⟩


set_option maxRecDepth 100000 in
set_option maxHeartbeats 4000000 in
theorem isPermutation_ct (v : Value) (b : Big) (r : Bool) (w : World) (h : BigAt w v b) (he : 0 ≤ b.edges ∧ b.edges ≤ 8) (hs4 : b.sites.length ≤ 4) (hxs : ∀ x ∈ b.sites, -1000 ≤ x ∧ x ≤ 1000) (hr : permB b = r) : Calls Tryz.prog 141 #[v] w fun e w' => e = .returned (.bool r) ∧ Below w.heap.size w w' := by
  have HR : Hid (permB b = r) := hr
  have HX : Hid (∀ x ∈ b.sites, -1000 ≤ x ∧ x ≤ 1000) := hxs
  clear hr hxs
  obtain ⟨a1, c1, a2, c2, a3, c3, a4, c4, rfl⟩ := h.shape
  have hA := balloc w (.cells #[.int .i64 b.roots, .slice a1 b.nodes.length c1, .slice a2 b.sites.length c2, .int .i64 b.edges, .slice a3 b.outer.length c3, .slice a4 b.inner.length c4] 34)
  have hx := h.below hA
  cases hp : placingB b with
  | false =>
    have HN : Hid (r = false) := by show _ = _; rw [← HR.out]; unfold permB; rw [hp]; rfl
    go_enter Tryz.func141, Tryz.ntmps141
    go_wp2_with fail
    obtain ⟨W0, hW0⟩ : ∃ W, W = w.alloc (.cells #[.int .i64 b.roots, .slice a1 b.nodes.length c1, .slice a2 b.sites.length c2, .int .i64 b.edges, .slice a3 b.outer.length c3, .slice a4 b.inner.length c4] 34) := ⟨_, rfl⟩
    rw [← hW0] at hA hx ⊢
    have BA : Box W0 w.heap.size #[.int .i64 b.roots, .slice a1 b.nodes.length c1, .slice a2 b.sites.length c2, .int .i64 b.edges, .slice a3 b.outer.length c3, .slice a4 b.inner.length c4] 34 := by rw [hW0]; exact Box.new _ _ _
    clear hW0
    have gA0 := fun y => gr_cell (w := W0) (BA.cell 0) y
    have gA1 := fun y => gr_cell (w := W0) (BA.cell 1) y
    have gA2 := fun y => gr_cell (w := W0) (BA.cell 2) y
    have gA3 := fun y => gr_cell (w := W0) (BA.cell 3) y
    have gA4 := fun y => gr_cell (w := W0) (BA.cell 4) y
    have gA5 := fun y => gr_cell (w := W0) (BA.cell 5) y
    refine wp_region_gr (by kernel_rfl) (by kernel_rfl) ?_
    repeat (go_big_quiet_step ((go_at_call 194; exact Calls.gr_of (isPlacing_ct _ b false _ (hx.below (gr_below _ _)) he hp))))
    refine wpQuiet_nil ?_
    intro w2 hb2
    go_wp2_with fail
    go_ret
    exact ⟨by rw [HN.out]; rfl, bthen hA hb2⟩
  | true =>
    have HN : Hid ((eachB (unders b) && decide (((unders b).length : Int) = b.roots)) = r) := by show _ = _; rw [← HR.out]; unfold permB; rw [hp, Bool.true_and]
    go_enter Tryz.func141, Tryz.ntmps141
    go_wp2_with fail
    obtain ⟨W0, hW0⟩ : ∃ W, W = w.alloc (.cells #[.int .i64 b.roots, .slice a1 b.nodes.length c1, .slice a2 b.sites.length c2, .int .i64 b.edges, .slice a3 b.outer.length c3, .slice a4 b.inner.length c4] 34) := ⟨_, rfl⟩
    rw [← hW0] at hA hx ⊢
    have BA : Box W0 w.heap.size #[.int .i64 b.roots, .slice a1 b.nodes.length c1, .slice a2 b.sites.length c2, .int .i64 b.edges, .slice a3 b.outer.length c3, .slice a4 b.inner.length c4] 34 := by rw [hW0]; exact Box.new _ _ _
    clear hW0
    have b0 := bdrew (Below.refl W0.heap.size W0)
    have hx := hx.below b0
    have BA := BA.drew
    have hb := bthen hA b0
    clear hA b0
    have hl100 : b.sites.length ≤ 100 := by omega
    have hu6 : (unders b).length ≤ 1000000 := by rw [unders_len]; omega
    go_region_held3 (fun w' => w'.cell? ⟨w.heap.size, 0, none⟩ = some (.int .i64 b.roots) ∧ w'.cell? ⟨w.heap.size, 1, none⟩ = some (.slice a1 b.nodes.length c1) ∧ w'.cell? ⟨w.heap.size, 2, none⟩ = some (.slice a2 b.sites.length c2) ∧ w'.cell? ⟨w.heap.size, 3, none⟩ = some (.int .i64 b.edges) ∧ w'.cell? ⟨w.heap.size, 4, none⟩ = some (.slice a3 b.outer.length c3) ∧ w'.cell? ⟨w.heap.size, 5, none⟩ = some (.slice a4 b.inner.length c4)) (first | exact ⟨BA.cell 0, BA.cell 1, BA.cell 2, BA.cell 3, BA.cell 4, BA.cell 5⟩) (first | (go_at_call 194; refine (isPlacing_ct _ b true _ hx he hp).mono ?_; rintro e w2 ⟨rfl, bb⟩; have BA := BA.below bb; have hx := hx.below bb; have hb := bthen hb bb; clear bb) | (go_at_call 59; refine (under_ct _ b _ hx hl100 HX.out).mono ?_; rintro e w3 ⟨u, rfl, hu, bb⟩; have hu := hu.at; have BA := BA.below bb; have hb := bthen hb bb; clear bb) | (go_at_call 106; refine (isOrderN_ct b.roots _ (unders b) r HN.out _ hu (Nat.le_trans hu6 (by decide))).mono ?_; rintro e w4 ⟨rfl, bb⟩; have BA := BA.below bb; have hb := bthen hb bb; clear bb))
    go_wp2_with fail
    go_ret
    exact ⟨by cases r <;> rfl, hb⟩

set_option maxHeartbeats 2000000 in
theorem implIsPermutation_ct (vs v : Value) (sig : List Ctl) (b : Big) (r : Bool) (w : World) (h : Ctx w vs v sig b) (hr : (goodB sig b && permB b) = r) :
    Calls Tryz.prog 58 #[vs, v] w fun e w' => e = .returned (.bool r) ∧ Below w.heap.size w w' := by
  have HR : Hid ((goodB sig b && permB b) = r) := hr
  clear hr
  have l1 := h.big.lens
  obtain ⟨a1, c1, a2, c2, a3, c3, a4, c4, rfl⟩ := h.big.shape
  have hA := balloc w (.cells #[.int .i64 b.roots, .slice a1 b.nodes.length c1, .slice a2 b.sites.length c2, .int .i64 b.edges, .slice a3 b.outer.length c3, .slice a4 b.inner.length c4] 34)
  have hx := h.below hA
  have BA : Box (w.alloc (.cells #[.int .i64 b.roots, .slice a1 b.nodes.length c1, .slice a2 b.sites.length c2, .int .i64 b.edges, .slice a3 b.outer.length c3, .slice a4 b.inner.length c4] 34)) w.heap.size #[.int .i64 b.roots, .slice a1 b.nodes.length c1, .slice a2 b.sites.length c2, .int .i64 b.edges, .slice a3 b.outer.length c3, .slice a4 b.inner.length c4] 34 := Box.new _ _ _
  cases hg : goodB sig b with
  | false =>
    have HN : Hid (r = false) := by show _ = _; rw [← HR.out]; rw [hg]; rfl
    clear HR
    go_enter Tryz.func58, Tryz.ntmps58
    go_wp2_with fail
    refine (implIsBigraph_ct _ _ sig b false _ hx hg).mono ?_
    rintro e w2 ⟨rfl, hb⟩
    go_wp2_with fail
    go_ret
    exact ⟨by rw [HN.out]; rfl, bthen hA hb⟩
  | true =>
    have HN : Hid (permB b = r) := by show _ = _; rw [← HR.out]; rw [hg, Bool.true_and]
    clear HR
    have hed := (good_of hg).edges
    have hs4 := (good_of hg).sites
    have hxs := sites_bd (good_of hg)
    go_enter Tryz.func58, Tryz.ntmps58
    go_wp2_with fail
    refine (implIsBigraph_ct _ _ sig b true _ hx hg).mono ?_
    rintro e w2 ⟨rfl, hb⟩
    have BA := BA.below hb
    have hx := hx.below hb
    have hb := bthen hA hb
    have qA := BA.cell
    clear hA hg
    go_wp2_with fail
    refine (isPermutation_ct _ b (permB b) _ hx.big hed hs4 hxs rfl).mono ?_
    rintro e w3 ⟨rfl, hb3⟩
    go_wp2_with fail
    go_ret
    exact ⟨ret_bool HN.out, bthen hb hb3⟩
end Go.Proofs.YthbdmcobpcoajaaGreatDoor
