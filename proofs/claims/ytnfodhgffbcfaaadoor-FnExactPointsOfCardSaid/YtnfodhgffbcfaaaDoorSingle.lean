/- Outer names with one point, idle links. -/
import Derived.Test.YtnfodhgffbcfaaaDoorPoints2
import Derived.IntWalk
namespace Go.Proofs.YtnfodhgffbcfaaaDoor
open Go Go.RowKit Go.BigFrame

def oneB (b : Big) (l : Int) : Bool := decide ((portsL b l).length + (endsL b l).length = 1)
def hasOneB (b : Big) : Bool := (List.range b.outer.length).all fun i => oneB b (b.edges + (i : Int))
def singleB (b : Big) : Bool := hasOneB b && decide (b.edges = 0)
def idleB (b : Big) (l : Int) : Bool := decide ((portsL b l).length = 0) && decide ((endsL b l).length = 0)
def leanB (b : Big) : Bool := (List.range b.edges.toNat).all fun i => !idleB b (i : Int)
theorem portsL_len {sig : List Ctl} {b : Big} (h : Good sig b) (l : Int) : (portsL b l).length ≤ 24 := by
  have := portsN_len h.links3 l b.nodes.length
  have := h.nodes
  unfold portsL; omega
theorem endsL_len {sig : List Ctl} {b : Big} (h : Good sig b) (l : Int) : (endsL b l).length ≤ 16 := by
  have := endsN_len b l b.inner.length
  have := names_len h.inner
  simp only [List.length_map] at this
  unfold endsL; omega
theorem Good.inner16 {sig : List Ctl} {b : Big} (h : Good sig b) : b.inner.length ≤ 16 := by have := names_len h.inner; simpa using this
theorem Good.outer16 {sig : List Ctl} {b : Big} (h : Good sig b) : b.outer.length ≤ 16 := names_len h.outer

set_option maxRecDepth 100000 in
set_option maxHeartbeats 4000000 in
theorem l2Idle_ct (v : Value) (sig : List Ctl) (b : Big) (L : Int) (r : Bool) (w : World) (h : BigAt w v b) (hG : Good sig b) (hL : I64 L) (hr : idleB b L = r) : Calls Tryd.prog 83 #[v, .int .i64 L] w fun e w' => e = .returned (.bool r) ∧ Below w.heap.size w w' := by
  have HR : Hid (idleB b L = r) := hr
  have h16 := hG.inner16
  have HG : Hid (Good sig b) := hG
  clear hr hG
  obtain ⟨a1, c1, a2, c2, a3, c3, a4, c4, rfl⟩ := h.shape
  have hA := balloc w (.cells #[.int .i64 b.roots, .slice a1 b.nodes.length c1, .slice a2 b.sites.length c2, .int .i64 b.edges, .slice a3 b.outer.length c3, .slice a4 b.inner.length c4] 41)
  have hx := h.below hA
  have BA : Box (w.alloc (.cells #[.int .i64 b.roots, .slice a1 b.nodes.length c1, .slice a2 b.sites.length c2, .int .i64 b.edges, .slice a3 b.outer.length c3, .slice a4 b.inner.length c4] 41)) w.heap.size #[.int .i64 b.roots, .slice a1 b.nodes.length c1, .slice a2 b.sites.length c2, .int .i64 b.edges, .slice a3 b.outer.length c3, .slice a4 b.inner.length c4] 41 := Box.new _ _ _
  have hp := portsL_len HG.out L
  have he := endsL_len HG.out L
  by_cases h1 : (portsL b L).length = 0
  · have HN : Hid (decide ((endsL b L).length = 0) = r) := by show _ = _; rw [← HR.out]; unfold idleB; rw [decide_eq_true h1, Bool.true_and]
    have h1' : ((portsL b L).length == 0) = true := by simpa using h1
    have H1 : Hid ((portsL b L).length = 0) := h1
    clear h1
    go_enter Tryd.func83, Tryd.ntmps83
    go_wp2_with fail
    refine (l2Ports_ct _ sig b L _ hx HG.out hL).mono ?_
    rintro e w3 ⟨u1, rfl, hu1, bb⟩
    obtain ⟨ua, uc, rfl⟩ := hu1.shape
    rw [H1.out]
    have qA := (BA.below bb).cell
    have hx := hx.below bb
    have hb := bthen hA bb
    clear hu1 bb
    go_wp2_with fail
    refine (l2Ends_ct _ b L _ hx h16 hL).mono ?_
    rintro e w4 ⟨u2, rfl, hu2, bb⟩
    obtain ⟨va, vc, rfl⟩ := hu2.shape
    have hb := bthen hb bb
    clear hu2 bb
    go_wp2_with fail
    go_ret
    exact ⟨ret_bool (by rw [← HN.out, Bool.eq_iff_iff]; simp only [beq_iff_eq, decide_eq_true_eq]; try omega), hb⟩
  · have HF : Hid (r = false) := by show _ = _; rw [← HR.out]; unfold idleB; rw [decide_eq_false h1]; rfl
    have h1' : (((portsL b L).length : Int) == 0) = false := by simp only [beq_eq_false_iff_ne, ne_eq]; omega
    have h2' : ¬ ((portsL b L).length : Int) = 0 := by omega
    clear h1
    go_enter Tryd.func83, Tryd.ntmps83
    go_wp2_with fail
    refine (l2Ports_ct _ sig b L _ hx HG.out hL).mono ?_
    rintro e w3 ⟨u1, rfl, hu1, bb⟩
    obtain ⟨ua, uc, rfl⟩ := hu1.shape
    clear hu1
    go_wp2_with fail
    go_ret
    exact ⟨by rw [HF.out]; rfl, bthen hA bb⟩
set_option maxRecDepth 100000 in
set_option maxHeartbeats 4000000 in
theorem isIdle_ct (v : Value) (sig : List Ctl) (b : Big) (L : Int) (r : Bool) (w : World) (h : BigAt w v b) (hG : Good sig b) (hL : I64 L) (hr : idleB b L = r) : Calls Tryd.prog 84 #[v, .int .i64 L] w fun e w' => e = .returned (.bool r) ∧ Below w.heap.size w w' := by
  have HR : Hid (idleB b L = r) := hr
  have HG : Hid (Good sig b) := hG
  clear hr hG
  obtain ⟨a1, c1, a2, c2, a3, c3, a4, c4, rfl⟩ := h.shape
  have hA := balloc w (.cells #[.int .i64 b.roots, .slice a1 b.nodes.length c1, .slice a2 b.sites.length c2, .int .i64 b.edges, .slice a3 b.outer.length c3, .slice a4 b.inner.length c4] 41)
  have hx := h.below hA
  have BA : Box (w.alloc (.cells #[.int .i64 b.roots, .slice a1 b.nodes.length c1, .slice a2 b.sites.length c2, .int .i64 b.edges, .slice a3 b.outer.length c3, .slice a4 b.inner.length c4] 41)) w.heap.size #[.int .i64 b.roots, .slice a1 b.nodes.length c1, .slice a2 b.sites.length c2, .int .i64 b.edges, .slice a3 b.outer.length c3, .slice a4 b.inner.length c4] 41 := Box.new _ _ _
  have hp := portsL_len HG.out L
  have he := endsL_len HG.out L
  go_enter Tryd.func84, Tryd.ntmps84
  go_wp2_with fail
  refine (pointsOf_ct _ sig b L _ hx HG.out hL).mono ?_
  rintro e w3 ⟨u1, u2, rfl, hu1, hu2, _, bb⟩
  obtain ⟨ua, uc, rfl⟩ := hu1.shape
  obtain ⟨va, vc, rfl⟩ := hu2.shape
  have hb := bthen hA bb
  clear hu1 hu2 bb
  go_wp2_with fail
  go_ret
  exact ⟨ret_bool (by rw [← HR.out]; unfold idleB; rw [Bool.eq_iff_iff]; simp only [beq_iff_eq, decide_eq_true_eq, Bool.and_eq_true]; try omega), hb⟩







end Go.Proofs.YtnfodhgffbcfaaaDoor
