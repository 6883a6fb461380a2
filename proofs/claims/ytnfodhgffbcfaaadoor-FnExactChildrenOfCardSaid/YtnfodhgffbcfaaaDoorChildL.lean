/- ChildrenOf: the reference's and the program's. -/
import Derived.Test.YtnfodhgffbcfaaaDoorKids
import Derived.Deep.RegionHeld3
namespace Go.Proofs.YtnfodhgffbcfaaaDoor
open Go Go.RowKit Go.BigFrame

theorem results_tmp3 {fn : Func} {t u z : Tmp} (h : fn.results = #[.tmp t, .tmp u, .tmp z]) (tmps : Array Value) (P : Program) (w : World) :
    (results fn tmps).run P w = .ok (.tuple #[tmps.getD t undef, tmps.getD u undef, tmps.getD z undef]) w := by
  simp [results, h]
def placeB (b : Big) (x : Int) : Bool := decide (-b.roots ≤ x ∧ x ≤ (b.nodes.length : Int) - 1)
def childOK (sig : List Ctl) (b : Big) (p : Int) : Bool := goodB sig b && placeB b p
def kidsR (sig : List Ctl) (b : Big) (p : Int) : List Int := if childOK sig b p then kidsL b p else []
def holesR (sig : List Ctl) (b : Big) (p : Int) : List Int := if childOK sig b p then holesL b p else []
theorem childOK_good {sig : List Ctl} {b : Big} {p : Int} (h : childOK sig b p = true) : Good sig b := by
  unfold childOK at h; simp only [Bool.and_eq_true] at h; exact good_of h.1
theorem childR_len (sig : List Ctl) (b : Big) (p : Int) : ((kidsR sig b p).length : Int) ≤ 100000000 ∧ ((holesR sig b p).length : Int) ≤ 100000000 := by
  unfold kidsR holesR
  split
  · rename_i h; have hG := childOK_good h; have := hG.nodes; have := hG.sites; have := pickN_len (kidF b p) b.nodes.length; have := pickN_len (holeF b p) b.sites.length; unfold kidsL holesL; omega
  · simp

set_option maxHeartbeats 1000000 in
theorem l2Place_ct (v : Value) (b : Big) (x : Int) (r : Bool) (w : World) (h : BigAt w v b) (he : 0 ≤ b.roots ∧ b.roots ≤ 4) (hn : b.nodes.length ≤ 100) (hr : placeB b x = r) :
    Calls Tryd.prog 75 #[v, .int .i64 x] w fun e w' => e = .returned (.bool r) ∧ Below w.heap.size w w' := by
  have HR : Hid (placeB b x = r) := hr
  clear hr
  obtain ⟨a1, c1, a2, c2, a3, c3, a4, c4, rfl⟩ := h.shape
  clear h
  go_enter Tryd.func75, Tryd.ntmps75
  go_wp2_with fail
  refine (l1In_ct _ _ _ r (by rw [← HR.out]; unfold placeB; rw [decide_eq_true_iff]) _).mono ?_
  rintro e w2 ⟨rfl, rfl⟩
  go_wp2_with fail
  go_ret
  exact ⟨rfl, balloc _ _⟩

set_option maxRecDepth 100000 in
set_option maxHeartbeats 4000000 in
theorem specChildrenOf_ct (vs v : Value) (sig : List Ctl) (b : Big) (p : Int) (w : World) (h : Ctx w vs v sig b) (hpI : I64 p) : Calls Tryd.prog 29 #[vs, v, .int .i64 p] w (GivesInts2 (kidsR sig b p) (holesR sig b p) (childOK sig b p) w) := by
  obtain ⟨a1, c1, a2, c2, a3, c3, a4, c4, rfl⟩ := h.big.shape
  have hA := balloc w (.cells #[.int .i64 b.roots, .slice a1 b.nodes.length c1, .slice a2 b.sites.length c2, .int .i64 b.edges, .slice a3 b.outer.length c3, .slice a4 b.inner.length c4] 41)
  have hx := h.below hA
  have BA : Box (w.alloc (.cells #[.int .i64 b.roots, .slice a1 b.nodes.length c1, .slice a2 b.sites.length c2, .int .i64 b.edges, .slice a3 b.outer.length c3, .slice a4 b.inner.length c4] 41)) w.heap.size #[.int .i64 b.roots, .slice a1 b.nodes.length c1, .slice a2 b.sites.length c2, .int .i64 b.edges, .slice a3 b.outer.length c3, .slice a4 b.inner.length c4] 41 := Box.new _ _ _
  cases hg : goodB sig b with
  | false =>
    have HO : Hid (childOK sig b p = false) := by show _ = _; unfold childOK; rw [hg]; rfl
    have HK : Hid (kidsR sig b p = []) := by show _ = _; unfold kidsR; rw [HO.out]; rfl
    have HH : Hid (holesR sig b p = []) := by show _ = _; unfold holesR; rw [HO.out]; rfl
    rw [HO.out, HK.out, HH.out]
    go_enter Tryd.func29, Tryd.ntmps29
    go_wp2_with fail
    refine (l2Good_ct _ _ sig b false _ hx hg).mono ?_
    rintro e w2 ⟨rfl, hb⟩
    go_wp2_with fail
    (try simp only [Exit.inBlock, Exit.then]); refine bodyPost_ret (results_tmp3 rfl _ _ _) rfl ?_
    exact ⟨_, _, rfl, ⟨own_none _ _ _ _ _, by simp, fun n hn => (by cases hn)⟩, ⟨own_none _ _ _ _ _, by simp, fun n hn => (by cases hn)⟩, by simp [blks], bthen (bthen (bthen hA hb) (balloc _ _)) (balloc _ _)⟩
  | true =>
    have hG := good_of hg
    have hro := hG.roots
    have h8 := hG.nodes
    have h4 := hG.sites
    clear hG
    cases hp : placeB b p with
    | false =>
    have HO : Hid (childOK sig b p = false) := by show _ = _; unfold childOK; rw [hg, hp]; rfl
    have HK : Hid (kidsR sig b p = []) := by show _ = _; unfold kidsR; rw [HO.out]; rfl
    have HH : Hid (holesR sig b p = []) := by show _ = _; unfold holesR; rw [HO.out]; rfl
    rw [HO.out, HK.out, HH.out]
    go_enter Tryd.func29, Tryd.ntmps29
    go_wp2_with fail
    refine (l2Good_ct _ _ sig b true _ hx hg).mono ?_
    rintro e w2 ⟨rfl, hb⟩
    have BA := BA.below hb
    have hx := hx.below hb
    have hb := bthen hA hb
    have qA := BA.cell
    clear hA hg
    go_wp2_with fail
    clear qA
    refine (l2Place_ct _ b p false _ hx.big hro (by omega) hp).mono ?_
    rintro e w3 ⟨rfl, bb⟩
    have BA := BA.below bb
    have hx := hx.below bb
    have hb := bthen hb bb
    have hz0 := hb.size
    clear bb
    have qA := BA.cell
    go_wp2_with fail
    (try simp only [Exit.inBlock, Exit.then]); refine bodyPost_ret (results_tmp3 rfl _ _ _) rfl ?_
    exact ⟨_, _, rfl, ⟨own_none _ _ _ _ _, by simp, fun n hn => (by cases hn)⟩, ⟨own_none _ _ _ _ _, by simp, fun n hn => (by cases hn)⟩, by simp [blks], bthen (bthen hb (balloc _ _)) (balloc _ _)⟩
    | true =>
    have HO : Hid (childOK sig b p = true) := by show _ = _; unfold childOK; rw [hg, hp]; rfl
    have HK : Hid (kidsR sig b p = kidsL b p) := by show _ = _; unfold kidsR; rw [HO.out]; rfl
    have HH : Hid (holesR sig b p = holesL b p) := by show _ = _; unfold holesR; rw [HO.out]; rfl
    rw [HO.out, HK.out, HH.out]
    go_enter Tryd.func29, Tryd.ntmps29
    go_wp2_with fail
    refine (l2Good_ct _ _ sig b true _ hx hg).mono ?_
    rintro e w2 ⟨rfl, hb⟩
    have BA := BA.below hb
    have hx := hx.below hb
    have hb := bthen hA hb
    have qA := BA.cell
    clear hA hg
    go_wp2_with fail
    clear qA
    refine (l2Place_ct _ b p true _ hx.big hro (by omega) hp).mono ?_
    rintro e w3 ⟨rfl, bb⟩
    have BA := BA.below bb
    have hx := hx.below bb
    have hb := bthen hb bb
    have hz0 := hb.size
    clear bb
    have qA := BA.cell
    go_wp2_with fail
    clear qA
    have BA := BA.drew
    have hb := bdrew hb
    go_region_held3 (fun w' => w'.cell? ⟨w.heap.size, 0, none⟩ = some (.int .i64 b.roots) ∧ w'.cell? ⟨w.heap.size, 1, none⟩ = some (.slice a1 b.nodes.length c1) ∧ w'.cell? ⟨w.heap.size, 2, none⟩ = some (.slice a2 b.sites.length c2) ∧ w'.cell? ⟨w.heap.size, 3, none⟩ = some (.int .i64 b.edges) ∧ w'.cell? ⟨w.heap.size, 4, none⟩ = some (.slice a3 b.outer.length c3) ∧ w'.cell? ⟨w.heap.size, 5, none⟩ = some (.slice a4 b.inner.length c4)) (first | exact ⟨BA.cell 0, BA.cell 1, BA.cell 2, BA.cell 3, BA.cell 4, BA.cell 5⟩) (first | (go_at_call 76; refine (l2Kids_ct _ b p _ (hx.big.below (bdrew (Below.refl _ _))) hpI (by omega)).mono ?_; rintro e w3 ⟨u1, rfl, hu1, bb⟩; obtain ⟨ka, kc, rfl⟩ := hu1.shp; have hl1 := hu1.lt; have hx := (hx.below (bdrew (Below.refl _ _))).below bb; have hz1 := bb.size; have BA := BA.below bb; have hb := bthen hb bb; clear bb) | (go_at_call 77; refine (l2Holes_ct _ b p _ hx.big hpI (by omega)).mono ?_; rintro e w4 ⟨u2, rfl, hu2, bb⟩; obtain ⟨la, lc, rfl⟩ := hu2.shp; have hl2 := hu2.lt; have hu1 := hu1.keep (keep_below bb (fun p hp => (hu1.lt p hp).2)); have hz2 := bb.size; have BA := BA.below bb; have hb := bthen hb bb; clear bb))
    go_wp2_with fail
    (try simp only [Exit.inBlock, Exit.then]); refine bodyPost_ret (results_tmp3 rfl _ _ _) rfl ?_
    exact ⟨_, _, rfl, ⟨hu1.1.mono hz0, hu1.2⟩, ⟨hu2.1.mono (Nat.le_trans hz0 hz1), hu2.2⟩, fun g h1 h2 => by have := hl1 g h1; have := hl2 g h2; omega, hb⟩

set_option maxRecDepth 100000 in
set_option maxHeartbeats 4000000 in
theorem implChildrenOf_ct (vs v : Value) (sig : List Ctl) (b : Big) (p : Int) (w : World) (h : Ctx w vs v sig b) (hpI : I64 p) : Calls Tryd.prog 30 #[vs, v, .int .i64 p] w (GivesInts2 (kidsR sig b p) (holesR sig b p) (childOK sig b p) w) := by
  obtain ⟨a1, c1, a2, c2, a3, c3, a4, c4, rfl⟩ := h.big.shape
  have hA := balloc w (.cells #[.int .i64 b.roots, .slice a1 b.nodes.length c1, .slice a2 b.sites.length c2, .int .i64 b.edges, .slice a3 b.outer.length c3, .slice a4 b.inner.length c4] 41)
  have hx := h.below hA
  have BA : Box (w.alloc (.cells #[.int .i64 b.roots, .slice a1 b.nodes.length c1, .slice a2 b.sites.length c2, .int .i64 b.edges, .slice a3 b.outer.length c3, .slice a4 b.inner.length c4] 41)) w.heap.size #[.int .i64 b.roots, .slice a1 b.nodes.length c1, .slice a2 b.sites.length c2, .int .i64 b.edges, .slice a3 b.outer.length c3, .slice a4 b.inner.length c4] 41 := Box.new _ _ _
  cases hg : goodB sig b with
  | false =>
    have HO : Hid (childOK sig b p = false) := by show _ = _; unfold childOK; rw [hg]; rfl
    have HK : Hid (kidsR sig b p = []) := by show _ = _; unfold kidsR; rw [HO.out]; rfl
    have HH : Hid (holesR sig b p = []) := by show _ = _; unfold holesR; rw [HO.out]; rfl
    rw [HO.out, HK.out, HH.out]
    go_enter Tryd.func30, Tryd.ntmps30
    go_wp2_with fail
    refine (implIsBigraph_ct _ _ sig b false _ hx hg).mono ?_
    rintro e w2 ⟨rfl, hb⟩
    go_wp2_with fail
    (try simp only [Exit.inBlock, Exit.then]); refine bodyPost_ret (results_tmp3 rfl _ _ _) rfl ?_
    exact ⟨_, _, rfl, ⟨own_none _ _ _ _ _, by simp, fun n hn => (by cases hn)⟩, ⟨own_none _ _ _ _ _, by simp, fun n hn => (by cases hn)⟩, by simp [blks], bthen hA hb⟩
  | true =>
    have hG := good_of hg
    have hro := hG.roots
    have h8 := hG.nodes
    have h4 := hG.sites
    clear hG
    cases hp : placeB b p with
    | false =>
    have HO : Hid (childOK sig b p = false) := by show _ = _; unfold childOK; rw [hg, hp]; rfl
    have HK : Hid (kidsR sig b p = []) := by show _ = _; unfold kidsR; rw [HO.out]; rfl
    have HH : Hid (holesR sig b p = []) := by show _ = _; unfold holesR; rw [HO.out]; rfl
    rw [HO.out, HK.out, HH.out]
    go_enter Tryd.func30, Tryd.ntmps30
    go_wp2_with fail
    refine (implIsBigraph_ct _ _ sig b true _ hx hg).mono ?_
    rintro e w2 ⟨rfl, hb⟩
    have BA := BA.below hb
    have hx := hx.below hb
    have hb := bthen hA hb
    have qA := BA.cell
    clear hA hg
    go_wp2_with fail
    clear qA
    refine (within_ct _ _ _ false ⟨fun h => (by cases h), fun h => (by have h2 : placeB b p = true := decide_eq_true h; rw [hp] at h2; cases h2)⟩ _).mono ?_
    rintro e w3 ⟨rfl, rfl⟩
    have hz0 := hb.size
    have qA := BA.cell
    go_wp2_with fail
    (try simp only [Exit.inBlock, Exit.then]); refine bodyPost_ret (results_tmp3 rfl _ _ _) rfl ?_
    exact ⟨_, _, rfl, ⟨own_none _ _ _ _ _, by simp, fun n hn => (by cases hn)⟩, ⟨own_none _ _ _ _ _, by simp, fun n hn => (by cases hn)⟩, by simp [blks], hb⟩
    | true =>
    have HO : Hid (childOK sig b p = true) := by show _ = _; unfold childOK; rw [hg, hp]; rfl
    have HK : Hid (kidsR sig b p = kidsL b p) := by show _ = _; unfold kidsR; rw [HO.out]; rfl
    have HH : Hid (holesR sig b p = holesL b p) := by show _ = _; unfold holesR; rw [HO.out]; rfl
    rw [HO.out, HK.out, HH.out]
    go_enter Tryd.func30, Tryd.ntmps30
    go_wp2_with fail
    refine (implIsBigraph_ct _ _ sig b true _ hx hg).mono ?_
    rintro e w2 ⟨rfl, hb⟩
    have BA := BA.below hb
    have hx := hx.below hb
    have hb := bthen hA hb
    have qA := BA.cell
    clear hA hg
    go_wp2_with fail
    clear qA
    refine (within_ct _ _ _ true ⟨fun _ => of_decide_eq_true hp, fun _ => rfl⟩ _).mono ?_
    rintro e w3 ⟨rfl, rfl⟩
    have hz0 := hb.size
    have qA := BA.cell
    go_wp2_with fail
    clear qA
    refine (childrenOf_ct _ b p _ hx.big hpI (by omega) (by omega)).mono ?_
    rintro e w3 ⟨u1, u2, rfl, hu1, hu2, hd, bb⟩
    obtain ⟨ka, kc, rfl⟩ := hu1.shp
    obtain ⟨la, lc, rfl⟩ := hu2.shp
    have hb := bthen hb bb
    go_wp2_with fail
    (try simp only [Exit.inBlock, Exit.then]); refine bodyPost_ret (results_tmp3 rfl _ _ _) rfl ?_
    exact ⟨_, _, rfl, ⟨hu1.1.mono hz0, hu1.2⟩, ⟨hu2.1.mono hz0, hu2.2⟩, hd, hb⟩

end Go.Proofs.YtnfodhgffbcfaaaDoor
