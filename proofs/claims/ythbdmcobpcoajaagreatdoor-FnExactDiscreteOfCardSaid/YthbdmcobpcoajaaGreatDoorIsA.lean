/- Tests of valid bigraphs that look at numbers alone. -/
import Derived.Test.YthbdmcobpcoajaaGreatDoorGoodI
namespace Go.Proofs.YthbdmcobpcoajaaGreatDoor
open Go Go.RowKit Go.BigFrame

theorem BigAt.lens {w : World} {v : Value} {b : Big} (h : BigAt w v b) : b.nodes.length ≤ 1073741824 ∧ b.sites.length ≤ 1073741824 ∧ b.outer.length ≤ 1073741824 ∧ b.inner.length ≤ 1073741824 := by
  obtain ⟨vn, vq, vo, vi, rfl, h1, h2, h3, h4, _⟩ := h
  obtain ⟨_, _, _, _, h1, _⟩ := h1.open
  obtain ⟨_, _, _, _, h2, _⟩ := h2.open
  obtain ⟨_, _, _, _, h3, _⟩ := h3.open
  obtain ⟨_, _, _, _, h4, _⟩ := h4.open
  exact ⟨h1, h2, h3, h4⟩
def wiringB (b : Big) : Bool := decide (b.roots = 0)
def openB (b : Big) : Bool := wiringB b && decide (b.edges = 0)
def primeB (b : Big) : Bool := decide (b.roots = 1) && decide (b.inner.length = 0)
def closedB (b : Big) : Bool := decide (b.sites.length = 0) && decide (b.inner.length = 0)
def placingB (b : Big) : Bool := decide (b.nodes.length = 0) && (decide (b.edges = 0) && (decide (b.outer.length = 0) && decide (b.inner.length = 0)))
def decE (b : Big) : Bool := decide (b.edges = 0)
def goodWB (sig : List Ctl) (b : Big) : Bool := goodB sig b && wiringB b

set_option maxHeartbeats 2000000 in
theorem l3Wiring_ct (v : Value) (b : Big) (r : Bool) (w : World) (h : BigAt w v b) (hr : wiringB b = r) : Calls Tryz.prog 110 #[v] w fun e w' => e = .returned (.bool r) ∧ Below w.heap.size w w' := by
  have HR : Hid (wiringB b = r) := hr
  clear hr
  have l1 := h.lens
  obtain ⟨a1, c1, a2, c2, a3, c3, a4, c4, rfl⟩ := h.shape
  have hA := balloc w (.cells #[.int .i64 b.roots, .slice a1 b.nodes.length c1, .slice a2 b.sites.length c2, .int .i64 b.edges, .slice a3 b.outer.length c3, .slice a4 b.inner.length c4] 34)
  have h := h.below hA
  have BA : Box (w.alloc (.cells #[.int .i64 b.roots, .slice a1 b.nodes.length c1, .slice a2 b.sites.length c2, .int .i64 b.edges, .slice a3 b.outer.length c3, .slice a4 b.inner.length c4] 34)) w.heap.size #[.int .i64 b.roots, .slice a1 b.nodes.length c1, .slice a2 b.sites.length c2, .int .i64 b.edges, .slice a3 b.outer.length c3, .slice a4 b.inner.length c4] 34 := Box.new _ _ _
  go_enter Tryz.func110, Tryz.ntmps110
  go_wp2_with fail
  go_ret
  exact ⟨ret_bool (by rw [← HR.out]; unfold wiringB; rw [Bool.eq_iff_iff]; simp only [beq_iff_eq, decide_eq_true_eq] <;> omega), balloc _ _⟩


set_option maxHeartbeats 2000000 in
theorem implIsWiring_ct (vs v : Value) (sig : List Ctl) (b : Big) (r : Bool) (w : World) (h : Ctx w vs v sig b) (hr : (goodB sig b && wiringB b) = r) :
    Calls Tryz.prog 114 #[vs, v] w fun e w' => e = .returned (.bool r) ∧ Below w.heap.size w w' := by
  have HR : Hid ((goodB sig b && wiringB b) = r) := hr
  clear hr
  have l1 := h.big.lens
  obtain ⟨a1, c1, a2, c2, a3, c3, a4, c4, rfl⟩ := h.big.shape
  have hA := balloc w (.cells #[.int .i64 b.roots, .slice a1 b.nodes.length c1, .slice a2 b.sites.length c2, .int .i64 b.edges, .slice a3 b.outer.length c3, .slice a4 b.inner.length c4] 34)
  have hx := h.below hA
  have BA : Box (w.alloc (.cells #[.int .i64 b.roots, .slice a1 b.nodes.length c1, .slice a2 b.sites.length c2, .int .i64 b.edges, .slice a3 b.outer.length c3, .slice a4 b.inner.length c4] 34)) w.heap.size #[.int .i64 b.roots, .slice a1 b.nodes.length c1, .slice a2 b.sites.length c2, .int .i64 b.edges, .slice a3 b.outer.length c3, .slice a4 b.inner.length c4] 34 := Box.new _ _ _
  cases hg : goodB sig b with
  | false =>
    have HN : Hid (r = false) := by show _ = _; rw [← HR.out]; rw [hg]; rfl
    clear HR
    go_enter Tryz.func114, Tryz.ntmps114
    go_wp2_with fail
    refine (implIsBigraph_ct _ _ sig b false _ hx hg).mono ?_
    rintro e w2 ⟨rfl, hb⟩
    go_wp2_with fail
    go_ret
    exact ⟨by rw [HN.out]; rfl, bthen hA hb⟩
  | true =>
    have HN : Hid (wiringB b = r) := by show _ = _; rw [← HR.out]; rw [hg, Bool.true_and]
    clear HR
    go_enter Tryz.func114, Tryz.ntmps114
    go_wp2_with fail
    refine (implIsBigraph_ct _ _ sig b true _ hx hg).mono ?_
    rintro e w2 ⟨rfl, hb⟩
    have BA := BA.below hb
    have hx := hx.below hb
    have hb := bthen hA hb
    have qA := BA.cell
    clear hA hg
    go_wp2_with fail
    go_ret
    exact ⟨ret_bool (by rw [← HN.out]; unfold wiringB; rw [Bool.eq_iff_iff]; simp only [beq_iff_eq, decide_eq_true_eq] <;> omega), hb⟩

set_option maxHeartbeats 2000000 in
theorem l3Open_ct (v : Value) (b : Big) (r : Bool) (w : World) (h : BigAt w v b) (hr : openB b = r) : Calls Tryz.prog 134 #[v] w fun e w' => e = .returned (.bool r) ∧ Below w.heap.size w w' := by
  have HR : Hid (openB b = r) := hr
  clear hr
  have l1 := h.lens
  obtain ⟨a1, c1, a2, c2, a3, c3, a4, c4, rfl⟩ := h.shape
  have hA := balloc w (.cells #[.int .i64 b.roots, .slice a1 b.nodes.length c1, .slice a2 b.sites.length c2, .int .i64 b.edges, .slice a3 b.outer.length c3, .slice a4 b.inner.length c4] 34)
  have h := h.below hA
  have BA : Box (w.alloc (.cells #[.int .i64 b.roots, .slice a1 b.nodes.length c1, .slice a2 b.sites.length c2, .int .i64 b.edges, .slice a3 b.outer.length c3, .slice a4 b.inner.length c4] 34)) w.heap.size #[.int .i64 b.roots, .slice a1 b.nodes.length c1, .slice a2 b.sites.length c2, .int .i64 b.edges, .slice a3 b.outer.length c3, .slice a4 b.inner.length c4] 34 := Box.new _ _ _
  cases hg : wiringB b with
  | false =>
    have HN : Hid (r = false) := by show _ = _; rw [← HR.out]; unfold openB; rw [hg]; rfl
    go_enter Tryz.func134, Tryz.ntmps134
    go_wp2_with fail
    refine (l3Wiring_ct _ b false _ h hg).mono ?_
    rintro e w2 ⟨rfl, hb⟩
    go_wp2_with fail
    go_ret
    exact ⟨by rw [HN.out]; rfl, bthen hA hb⟩
  | true =>
    have HN : Hid (decide (b.edges = 0) = r) := by show _ = _; rw [← HR.out]; unfold openB; rw [hg, Bool.true_and]
    go_enter Tryz.func134, Tryz.ntmps134
    go_wp2_with fail
    refine (l3Wiring_ct _ b true _ h hg).mono ?_
    rintro e w2 ⟨rfl, hb⟩
    have qA := (BA.below hb).cell
    clear hg
    go_wp2_with fail
    go_ret
    exact ⟨ret_bool (by rw [← HN.out, Bool.eq_iff_iff]; simp only [beq_iff_eq, decide_eq_true_eq]), bthen hA hb⟩


theorem implIsWiring_gt (vs v : Value) (sig : List Ctl) (b : Big) (r : Bool) (w : World) (h : Ctx w vs v sig b) (hr : goodWB sig b = r) :
    Calls Tryz.prog 114 #[vs, v] w fun e w' => e = .returned (.bool r) ∧ Below w.heap.size w w' := implIsWiring_ct vs v sig b r w h hr
set_option maxHeartbeats 2000000 in
theorem implIsSubstitution_ct (vs v : Value) (sig : List Ctl) (b : Big) (r : Bool) (w : World) (h : Ctx w vs v sig b) (hr : (goodWB sig b && decE b) = r) :
    Calls Tryz.prog 142 #[vs, v] w fun e w' => e = .returned (.bool r) ∧ Below w.heap.size w w' := by
  have HR : Hid ((goodWB sig b && decE b) = r) := hr
  clear hr
  have l1 := h.big.lens
  obtain ⟨a1, c1, a2, c2, a3, c3, a4, c4, rfl⟩ := h.big.shape
  have hA := balloc w (.cells #[.int .i64 b.roots, .slice a1 b.nodes.length c1, .slice a2 b.sites.length c2, .int .i64 b.edges, .slice a3 b.outer.length c3, .slice a4 b.inner.length c4] 34)
  have hx := h.below hA
  have BA : Box (w.alloc (.cells #[.int .i64 b.roots, .slice a1 b.nodes.length c1, .slice a2 b.sites.length c2, .int .i64 b.edges, .slice a3 b.outer.length c3, .slice a4 b.inner.length c4] 34)) w.heap.size #[.int .i64 b.roots, .slice a1 b.nodes.length c1, .slice a2 b.sites.length c2, .int .i64 b.edges, .slice a3 b.outer.length c3, .slice a4 b.inner.length c4] 34 := Box.new _ _ _
  cases hg : goodWB sig b with
  | false =>
    have HN : Hid (r = false) := by show _ = _; rw [← HR.out]; rw [hg]; rfl
    clear HR
    go_enter Tryz.func142, Tryz.ntmps142
    go_wp2_with fail
    refine (implIsWiring_gt _ _ sig b false _ hx hg).mono ?_
    rintro e w2 ⟨rfl, hb⟩
    go_wp2_with fail
    go_ret
    exact ⟨by rw [HN.out]; rfl, bthen hA hb⟩
  | true =>
    have HN : Hid (decE b = r) := by show _ = _; rw [← HR.out]; rw [hg, Bool.true_and]
    clear HR
    go_enter Tryz.func142, Tryz.ntmps142
    go_wp2_with fail
    refine (implIsWiring_gt _ _ sig b true _ hx hg).mono ?_
    rintro e w2 ⟨rfl, hb⟩
    have BA := BA.below hb
    have hx := hx.below hb
    have hb := bthen hA hb
    have qA := BA.cell
    clear hA hg
    go_wp2_with fail
    go_ret
    exact ⟨ret_bool (by rw [← HN.out]; unfold decE; rw [Bool.eq_iff_iff]; simp only [beq_iff_eq, decide_eq_true_eq] <;> omega), hb⟩







set_option maxHeartbeats 2000000 in
theorem l3Placing_ct (v : Value) (b : Big) (r : Bool) (w : World) (h : BigAt w v b) (hr : placingB b = r) : Calls Tryz.prog 133 #[v] w fun e w' => e = .returned (.bool r) ∧ Below w.heap.size w w' := by
  have HR : Hid (placingB b = r) := hr
  clear hr
  have l1 := h.lens
  obtain ⟨a1, c1, a2, c2, a3, c3, a4, c4, rfl⟩ := h.shape
  have hA := balloc w (.cells #[.int .i64 b.roots, .slice a1 b.nodes.length c1, .slice a2 b.sites.length c2, .int .i64 b.edges, .slice a3 b.outer.length c3, .slice a4 b.inner.length c4] 34)
  have h := h.below hA
  have BA : Box (w.alloc (.cells #[.int .i64 b.roots, .slice a1 b.nodes.length c1, .slice a2 b.sites.length c2, .int .i64 b.edges, .slice a3 b.outer.length c3, .slice a4 b.inner.length c4] 34)) w.heap.size #[.int .i64 b.roots, .slice a1 b.nodes.length c1, .slice a2 b.sites.length c2, .int .i64 b.edges, .slice a3 b.outer.length c3, .slice a4 b.inner.length c4] 34 := Box.new _ _ _
  by_cases e0 : b.nodes.length = 0
  case pos =>
    by_cases e1 : b.edges = 0
    case pos =>
      by_cases e2 : b.outer.length = 0
      case pos =>
        go_enter Tryz.func133, Tryz.ntmps133
        go_wp2_with fail
        go_ret
        exact ⟨ret_bool (by rw [← HR.out]; unfold placingB; rw [decide_eq_true e0, Bool.true_and, decide_eq_true e1, Bool.true_and, decide_eq_true e2, Bool.true_and, Bool.eq_iff_iff]; simp only [beq_iff_eq, decide_eq_true_eq] <;> omega), balloc _ _⟩
      case neg =>
        go_enter Tryz.func133, Tryz.ntmps133
        go_wp2_with fail
        go_ret
        exact ⟨ret_bool (by rw [← HR.out]; unfold placingB; rw [decide_eq_true e0, Bool.true_and, decide_eq_true e1, Bool.true_and, decide_eq_false e2]; rfl), balloc _ _⟩
    case neg =>
      go_enter Tryz.func133, Tryz.ntmps133
      go_wp2_with fail
      go_ret
      exact ⟨ret_bool (by rw [← HR.out]; unfold placingB; rw [decide_eq_true e0, Bool.true_and, decide_eq_false e1]; rfl), balloc _ _⟩
  case neg =>
    go_enter Tryz.func133, Tryz.ntmps133
    go_wp2_with fail
    go_ret
    exact ⟨ret_bool (by rw [← HR.out]; unfold placingB; rw [decide_eq_false e0]; rfl), balloc _ _⟩


set_option maxHeartbeats 2000000 in
theorem isPlacing_ct (v : Value) (b : Big) (r : Bool) (w : World) (h : BigAt w v b) (he : 0 ≤ b.edges ∧ b.edges ≤ 8) (hr : placingB b = r) : Calls Tryz.prog 194 #[v] w fun e w' => e = .returned (.bool r) ∧ Below w.heap.size w w' := by
  have HR : Hid (placingB b = r) := hr
  clear hr
  have l1 := h.lens
  obtain ⟨a1, c1, a2, c2, a3, c3, a4, c4, rfl⟩ := h.shape
  have hA := balloc w (.cells #[.int .i64 b.roots, .slice a1 b.nodes.length c1, .slice a2 b.sites.length c2, .int .i64 b.edges, .slice a3 b.outer.length c3, .slice a4 b.inner.length c4] 34)
  have h := h.below hA
  have BA : Box (w.alloc (.cells #[.int .i64 b.roots, .slice a1 b.nodes.length c1, .slice a2 b.sites.length c2, .int .i64 b.edges, .slice a3 b.outer.length c3, .slice a4 b.inner.length c4] 34)) w.heap.size #[.int .i64 b.roots, .slice a1 b.nodes.length c1, .slice a2 b.sites.length c2, .int .i64 b.edges, .slice a3 b.outer.length c3, .slice a4 b.inner.length c4] 34 := Box.new _ _ _
  go_enter Tryz.func194, Tryz.ntmps194
  go_wp2_with fail
  go_ret
  exact ⟨ret_bool (by rw [← HR.out]; unfold placingB; rw [Bool.eq_iff_iff]; simp only [beq_iff_eq, Bool.and_eq_true, decide_eq_true_eq] <;> omega), balloc _ _⟩

end Go.Proofs.YthbdmcobpcoajaaGreatDoor
