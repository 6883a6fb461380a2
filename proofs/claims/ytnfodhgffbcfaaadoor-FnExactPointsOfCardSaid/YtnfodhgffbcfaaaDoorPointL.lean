/- PointsOf: the reference's and the program's. -/
import Derived.Test.YtnfodhgffbcfaaaDoorPairs
import Derived.Test.YtnfodhgffbcfaaaDoorSingle
import Derived.Deep.RegionHeld3
namespace Go.Proofs.YtnfodhgffbcfaaaDoor
open Go Go.RowKit Go.BigFrame

theorem results_tmp3 {fn : Func} {t u z : Tmp} (h : fn.results = #[.tmp t, .tmp u, .tmp z]) (tmps : Array Value) (P : Program) (w : World) :
    (results fn tmps).run P w = .ok (.tuple #[tmps.getD t undef, tmps.getD u undef, tmps.getD z undef]) w := by
  simp [results, h]
def GivesPts (R0 : List (Int × Int)) (R1 : List ByteArray) (ok : Bool) (w : World) (e : Ending) (w' : World) : Prop :=
  ∃ v0 v1, e = .returned (.tuple #[v0, v1, .bool ok]) ∧ PrsOwn w.heap.size w' v0 R0 ∧ StrsOwn w.heap.size w' v1 R1 ∧ (∀ g ∈ blks v0, g ∉ blks v1) ∧ Below w.heap.size w w'
def pointOK (sig : List Ctl) (b : Big) (p : Int) : Bool := goodB sig b && linkB b p
def portsR (sig : List Ctl) (b : Big) (p : Int) : List (Int × Int) := if pointOK sig b p then ofNats (portsL b p) else []
def endsR (sig : List Ctl) (b : Big) (p : Int) : List ByteArray := if pointOK sig b p then endsL b p else []
theorem pointOK_good {sig : List Ctl} {b : Big} {p : Int} (h : pointOK sig b p = true) : Good sig b := by
  unfold pointOK at h; simp only [Bool.and_eq_true] at h; exact good_of h.1
theorem pointR_len (sig : List Ctl) (b : Big) (p : Int) : (2 * ((portsR sig b p).length : Int) ≤ 100000000) ∧ ((endsR sig b p).length : Int) ≤ 100000000 := by
  unfold portsR endsR
  split
  · rename_i h; have hG := pointOK_good h; have := portsL_len hG p; have := endsL_len hG p; simp only [ofNats, List.length_map]; omega
  · simp

set_option maxRecDepth 100000 in
set_option maxHeartbeats 4000000 in
theorem specPointsOf_ct (vs v : Value) (sig : List Ctl) (b : Big) (p : Int) (w : World) (h : Ctx w vs v sig b) (hpI : I64 p) : Calls Tryd.prog 38 #[vs, v, .int .i64 p] w (GivesPts (portsR sig b p) (endsR sig b p) (pointOK sig b p) w) := by
  obtain ⟨a1, c1, a2, c2, a3, c3, a4, c4, rfl⟩ := h.big.shape
  have hA := balloc w (.cells #[.int .i64 b.roots, .slice a1 b.nodes.length c1, .slice a2 b.sites.length c2, .int .i64 b.edges, .slice a3 b.outer.length c3, .slice a4 b.inner.length c4] 41)
  have hx := h.below hA
  have BA : Box (w.alloc (.cells #[.int .i64 b.roots, .slice a1 b.nodes.length c1, .slice a2 b.sites.length c2, .int .i64 b.edges, .slice a3 b.outer.length c3, .slice a4 b.inner.length c4] 41)) w.heap.size #[.int .i64 b.roots, .slice a1 b.nodes.length c1, .slice a2 b.sites.length c2, .int .i64 b.edges, .slice a3 b.outer.length c3, .slice a4 b.inner.length c4] 41 := Box.new _ _ _
  cases hg : goodB sig b with
  | false =>
    have HO : Hid (pointOK sig b p = false) := by show _ = _; unfold pointOK; rw [hg]; rfl
    have HK : Hid (portsR sig b p = []) := by show _ = _; unfold portsR; rw [HO.out]; rfl
    have HH : Hid (endsR sig b p = []) := by show _ = _; unfold endsR; rw [HO.out]; rfl
    rw [HO.out, HK.out, HH.out]
    go_enter Tryd.func38, Tryd.ntmps38
    go_wp2_with fail
    refine (l2Good_ct _ _ sig b false _ hx hg).mono ?_
    rintro e w2 ⟨rfl, hb⟩
    go_wp2_with fail
    (try simp only [Exit.inBlock, Exit.then]); refine bodyPost_ret (results_tmp3 rfl _ _ _) rfl ?_
    exact ⟨_, _, rfl, ⟨own_none _ _ _ _ _, by simp⟩, ⟨own_none _ _ _ _ _, by simp, fun n hn => (by cases hn)⟩, by simp [blks], bthen (bthen (bthen hA hb) (balloc _ _)) (balloc _ _)⟩
  | true =>
    have hG := good_of hg
    have hed := hG.edges
    have h16 := hG.inner16
    have HG : Hid (Good sig b) := hG
    clear hG
    cases hp : linkB b p with
    | false =>
    have HO : Hid (pointOK sig b p = false) := by show _ = _; unfold pointOK; rw [hg, hp]; rfl
    have HK : Hid (portsR sig b p = []) := by show _ = _; unfold portsR; rw [HO.out]; rfl
    have HH : Hid (endsR sig b p = []) := by show _ = _; unfold endsR; rw [HO.out]; rfl
    rw [HO.out, HK.out, HH.out]
    go_enter Tryd.func38, Tryd.ntmps38
    go_wp2_with fail
    refine (l2Good_ct _ _ sig b true _ hx hg).mono ?_
    rintro e w2 ⟨rfl, hb⟩
    have BA := BA.below hb
    have hx := hx.below hb
    have hb := bthen hA hb
    have qA := BA.cell
    clear hA hg
    go_wp2_with fail
    clear qA
    refine (l2Link_ct _ b p false _ hx.big hed hp).mono ?_
    rintro e w3 ⟨rfl, bb⟩
    have BA := BA.below bb
    have hx := hx.below bb
    have hb := bthen hb bb
    have hz0 := hb.size
    clear bb
    have qA := BA.cell
    go_wp2_with fail
    (try simp only [Exit.inBlock, Exit.then]); refine bodyPost_ret (results_tmp3 rfl _ _ _) rfl ?_
    exact ⟨_, _, rfl, ⟨own_none _ _ _ _ _, by simp⟩, ⟨own_none _ _ _ _ _, by simp, fun n hn => (by cases hn)⟩, by simp [blks], bthen (bthen hb (balloc _ _)) (balloc _ _)⟩
    | true =>
    have HO : Hid (pointOK sig b p = true) := by show _ = _; unfold pointOK; rw [hg, hp]; rfl
    have HK : Hid (portsR sig b p = ofNats (portsL b p)) := by show _ = _; unfold portsR; rw [HO.out]; rfl
    have HH : Hid (endsR sig b p = endsL b p) := by show _ = _; unfold endsR; rw [HO.out]; rfl
    rw [HO.out, HK.out, HH.out]
    go_enter Tryd.func38, Tryd.ntmps38
    go_wp2_with fail
    refine (l2Good_ct _ _ sig b true _ hx hg).mono ?_
    rintro e w2 ⟨rfl, hb⟩
    have BA := BA.below hb
    have hx := hx.below hb
    have hb := bthen hA hb
    have qA := BA.cell
    clear hA hg
    go_wp2_with fail
    clear qA
    refine (l2Link_ct _ b p true _ hx.big hed hp).mono ?_
    rintro e w3 ⟨rfl, bb⟩
    have BA := BA.below bb
    have hx := hx.below bb
    have hb := bthen hb bb
    have hz0 := hb.size
    clear bb
    have qA := BA.cell
    go_wp2_with fail
    clear qA
    have BA := BA.drew
    have hb := bdrew hb
    go_region_held3 (fun w' => w'.cell? ⟨w.heap.size, 0, none⟩ = some (.int .i64 b.roots) ∧ w'.cell? ⟨w.heap.size, 1, none⟩ = some (.slice a1 b.nodes.length c1) ∧ w'.cell? ⟨w.heap.size, 2, none⟩ = some (.slice a2 b.sites.length c2) ∧ w'.cell? ⟨w.heap.size, 3, none⟩ = some (.int .i64 b.edges) ∧ w'.cell? ⟨w.heap.size, 4, none⟩ = some (.slice a3 b.outer.length c3) ∧ w'.cell? ⟨w.heap.size, 5, none⟩ = some (.slice a4 b.inner.length c4)) (first | exact ⟨BA.cell 0, BA.cell 1, BA.cell 2, BA.cell 3, BA.cell 4, BA.cell 5⟩) (first | (go_at_call 90; refine (l2Ports_ct _ sig b p _ (hx.big.below (bdrew (Below.refl _ _))) HG.out hpI).mono ?_; rintro e w3 ⟨u1, rfl, hu1, bb⟩; obtain ⟨ka, kc, rfl⟩ := hu1.shape; have hl1 := hu1.1.lt; have hx := (hx.below (bdrew (Below.refl _ _))).below bb; have hz1 := bb.size; have BA := BA.below bb; have hb := bthen hb bb; clear bb) | (go_at_call 91; refine (l2Ends_ct _ b p _ hx.big h16 hpI).mono ?_; rintro e w4 ⟨u2, rfl, hu2, bb⟩; obtain ⟨la, lc, rfl⟩ := hu2.shape; have hl2 := hu2.1.lt; have hu1 := hu1.prs.keep (keep_below bb (fun p hp => (hl1 p hp).2)); have hz2 := bb.size; have BA := BA.below bb; have hb := bthen hb bb; clear bb))
    go_wp2_with fail
    (try simp only [Exit.inBlock, Exit.then]); refine bodyPost_ret (results_tmp3 rfl _ _ _) rfl ?_
    exact ⟨_, _, rfl, ⟨hu1.1.mono hz0, hu1.2⟩, ⟨hu2.1.mono (Nat.le_trans hz0 hz1), hu2.2⟩, fun g h1 h2 => by have := hl1 g h1; have := hl2 g h2; omega, hb⟩

set_option maxRecDepth 100000 in
set_option maxHeartbeats 4000000 in
theorem implPointsOf_ct (vs v : Value) (sig : List Ctl) (b : Big) (p : Int) (w : World) (h : Ctx w vs v sig b) (hpI : I64 p) : Calls Tryd.prog 39 #[vs, v, .int .i64 p] w (GivesPts (portsR sig b p) (endsR sig b p) (pointOK sig b p) w) := by
  obtain ⟨a1, c1, a2, c2, a3, c3, a4, c4, rfl⟩ := h.big.shape
  have hA := balloc w (.cells #[.int .i64 b.roots, .slice a1 b.nodes.length c1, .slice a2 b.sites.length c2, .int .i64 b.edges, .slice a3 b.outer.length c3, .slice a4 b.inner.length c4] 41)
  have hx := h.below hA
  have BA : Box (w.alloc (.cells #[.int .i64 b.roots, .slice a1 b.nodes.length c1, .slice a2 b.sites.length c2, .int .i64 b.edges, .slice a3 b.outer.length c3, .slice a4 b.inner.length c4] 41)) w.heap.size #[.int .i64 b.roots, .slice a1 b.nodes.length c1, .slice a2 b.sites.length c2, .int .i64 b.edges, .slice a3 b.outer.length c3, .slice a4 b.inner.length c4] 41 := Box.new _ _ _
  cases hg : goodB sig b with
  | false =>
    have HO : Hid (pointOK sig b p = false) := by show _ = _; unfold pointOK; rw [hg]; rfl
    have HK : Hid (portsR sig b p = []) := by show _ = _; unfold portsR; rw [HO.out]; rfl
    have HH : Hid (endsR sig b p = []) := by show _ = _; unfold endsR; rw [HO.out]; rfl
    rw [HO.out, HK.out, HH.out]
    go_enter Tryd.func39, Tryd.ntmps39
    go_wp2_with fail
    refine (implIsBigraph_ct _ _ sig b false _ hx hg).mono ?_
    rintro e w2 ⟨rfl, hb⟩
    go_wp2_with fail
    (try simp only [Exit.inBlock, Exit.then]); refine bodyPost_ret (results_tmp3 rfl _ _ _) rfl ?_
    exact ⟨_, _, rfl, ⟨own_none _ _ _ _ _, by simp⟩, ⟨own_none _ _ _ _ _, by simp, fun n hn => (by cases hn)⟩, by simp [blks], bthen hA hb⟩
  | true =>
    have hG := good_of hg
    have hed := hG.edges
    have h16 := hG.inner16
    have HG : Hid (Good sig b) := hG
    clear hG
    cases hp : linkB b p with
    | false =>
    have HO : Hid (pointOK sig b p = false) := by show _ = _; unfold pointOK; rw [hg, hp]; rfl
    have HK : Hid (portsR sig b p = []) := by show _ = _; unfold portsR; rw [HO.out]; rfl
    have HH : Hid (endsR sig b p = []) := by show _ = _; unfold endsR; rw [HO.out]; rfl
    rw [HO.out, HK.out, HH.out]
    go_enter Tryd.func39, Tryd.ntmps39
    go_wp2_with fail
    refine (implIsBigraph_ct _ _ sig b true _ hx hg).mono ?_
    rintro e w2 ⟨rfl, hb⟩
    have BA := BA.below hb
    have hx := hx.below hb
    have hb := bthen hA hb
    have qA := BA.cell
    clear hA hg
    go_wp2_with fail
    clear qA
    refine (isLink_ct _ b p false _ hx.big hed hp).mono ?_
    rintro e w3 ⟨rfl, bb⟩
    have BA := BA.below bb
    have hx := hx.below bb
    have hb := bthen hb bb
    have hz0 := hb.size
    clear bb
    have qA := BA.cell
    go_wp2_with fail
    (try simp only [Exit.inBlock, Exit.then]); refine bodyPost_ret (results_tmp3 rfl _ _ _) rfl ?_
    exact ⟨_, _, rfl, ⟨own_none _ _ _ _ _, by simp⟩, ⟨own_none _ _ _ _ _, by simp, fun n hn => (by cases hn)⟩, by simp [blks], hb⟩
    | true =>
    have HO : Hid (pointOK sig b p = true) := by show _ = _; unfold pointOK; rw [hg, hp]; rfl
    have HK : Hid (portsR sig b p = ofNats (portsL b p)) := by show _ = _; unfold portsR; rw [HO.out]; rfl
    have HH : Hid (endsR sig b p = endsL b p) := by show _ = _; unfold endsR; rw [HO.out]; rfl
    rw [HO.out, HK.out, HH.out]
    go_enter Tryd.func39, Tryd.ntmps39
    go_wp2_with fail
    refine (implIsBigraph_ct _ _ sig b true _ hx hg).mono ?_
    rintro e w2 ⟨rfl, hb⟩
    have BA := BA.below hb
    have hx := hx.below hb
    have hb := bthen hA hb
    have qA := BA.cell
    clear hA hg
    go_wp2_with fail
    clear qA
    refine (isLink_ct _ b p true _ hx.big hed hp).mono ?_
    rintro e w3 ⟨rfl, bb⟩
    have BA := BA.below bb
    have hx := hx.below bb
    have hb := bthen hb bb
    have hz0 := hb.size
    clear bb
    have qA := BA.cell
    go_wp2_with fail
    clear qA
    refine (pointsOf_ct _ sig b p _ hx.big HG.out hpI).mono ?_
    rintro e w3 ⟨u1, u2, rfl, hu1, hu2, hd, bb⟩
    obtain ⟨ka, kc, rfl⟩ := hu1.shape
    obtain ⟨la, lc, rfl⟩ := hu2.shape
    have hu1 := hu1.prs
    have hb := bthen hb bb
    go_wp2_with fail
    (try simp only [Exit.inBlock, Exit.then]); refine bodyPost_ret (results_tmp3 rfl _ _ _) rfl ?_
    exact ⟨_, _, rfl, ⟨hu1.1.mono hz0, hu1.2⟩, ⟨hu2.1.mono hz0, hu2.2⟩, hd, hb⟩

end Go.Proofs.YtnfodhgffbcfaaaDoor
