/- Tests of valid bigraphs that look at numbers alone. -/
import Derived.Test.YthgelhglfbgagaaGreatDoorGoodI
namespace Go.Proofs.YthgelhglfbgagaaGreatDoor
open Go Go.RowKit Go.BigFrame

theorem BigAt.lens {w : World} {v : Value} {b : Big} (h : BigAt w v b) : b.nodes.length ≤ 1073741824 ∧ b.sites.length ≤ 1073741824 ∧ b.outer.length ≤ 1073741824 ∧ b.inner.length ≤ 1073741824 := by
  obtain ⟨vn, vq, vo, vi, rfl, h1, h2, h3, h4, _⟩ := h
  obtain ⟨_, _, _, _, h1, _⟩ := h1.open
  obtain ⟨_, _, _, _, h2, _⟩ := h2.open
  obtain ⟨_, _, _, _, h3, _⟩ := h3.open
  obtain ⟨_, _, _, _, h4, _⟩ := h4.open
  exact ⟨h1, h2, h3, h4⟩
def wiringB (b : Big) : Bool := decide (b.roots = 0)
def openB (b : Big) : Bool := wiringB b && decide (b.edges = 0)
def primeB (b : Big) : Bool := decide (b.roots = 1) && decide (b.inner.length = 0)
def closedB (b : Big) : Bool := decide (b.sites.length = 0) && decide (b.inner.length = 0)
def placingB (b : Big) : Bool := decide (b.nodes.length = 0) && (decide (b.edges = 0) && (decide (b.outer.length = 0) && decide (b.inner.length = 0)))
def decE (b : Big) : Bool := decide (b.edges = 0)
def goodWB (sig : List Ctl) (b : Big) : Bool := goodB sig b && wiringB b

set_option maxHeartbeats 2000000 in
theorem l3Wiring_ct (v : Value) (b : Big) (r : Bool) (w : World) (h : BigAt w v b) (hr : wiringB b = r) : Calls Tryz.prog 56 #[v] w fun e w' => e = .returned (.bool r) ∧ Below w.heap.size w w' := by
  have HR : Hid (wiringB b = r) := hr
  clear hr
  have l1 := h.lens
  obtain ⟨a1, c1, a2, c2, a3, c3, a4, c4, rfl⟩ := h.shape
  have hA := balloc w (.cells #[.int .i64 b.roots, .slice a1 b.nodes.length c1, .slice a2 b.sites.length c2, .int .i64 b.edges, .slice a3 b.outer.length c3, .slice a4 b.inner.length c4] 29)
  have h := h.below hA
  have BA : Box (w.alloc (.cells #[.int .i64 b.roots, .slice a1 b.nodes.length c1, .slice a2 b.sites.length c2, .int .i64 b.edges, .slice a3 b.outer.length c3, .slice a4 b.inner.length c4] 29)) w.heap.size #[.int .i64 b.roots, .slice a1 b.nodes.length c1, .slice a2 b.sites.length c2, .int .i64 b.edges, .slice a3 b.outer.length c3, .slice a4 b.inner.length c4] 29 := Box.new _ _ _
  go_enter Tryz.func56, Tryz.ntmps56
  go_wp2_with fail
  go_ret
  exact ⟨ret_bool (by rw [← HR.out]; unfold wiringB; rw [Bool.eq_iff_iff]; simp only [beq_iff_eq, decide_eq_true_eq] <;> omega), balloc _ _⟩


set_option maxHeartbeats 2000000 in
theorem implIsWiring_ct (vs v : Value) (sig : List Ctl) (b : Big) (r : Bool) (w : World) (h : Ctx w vs v sig b) (hr : (goodB sig b && wiringB b) = r) :
    Calls Tryz.prog 65 #[vs, v] w fun e w' => e = .returned (.bool r) ∧ Below w.heap.size w w' := by
  have HR : Hid ((goodB sig b && wiringB b) = r) := hr
  clear hr
  have l1 := h.big.lens
  obtain ⟨a1, c1, a2, c2, a3, c3, a4, c4, rfl⟩ := h.big.shape
  have hA := balloc w (.cells #[.int .i64 b.roots, .slice a1 b.nodes.length c1, .slice a2 b.sites.length c2, .int .i64 b.edges, .slice a3 b.outer.length c3, .slice a4 b.inner.length c4] 29)
  have hx := h.below hA
  have BA : Box (w.alloc (.cells #[.int .i64 b.roots, .slice a1 b.nodes.length c1, .slice a2 b.sites.length c2, .int .i64 b.edges, .slice a3 b.outer.length c3, .slice a4 b.inner.length c4] 29)) w.heap.size #[.int .i64 b.roots, .slice a1 b.nodes.length c1, .slice a2 b.sites.length c2, .int .i64 b.edges, .slice a3 b.outer.length c3, .slice a4 b.inner.length c4] 29 := Box.new _ _ _
  cases hg : goodB sig b with
  | false =>
    have HN : Hid (r = false) := by show _ = _; rw [← HR.out]; rw [hg]; rfl
    clear HR
    go_enter Tryz.func65, Tryz.ntmps65
    go_wp2_with fail
    refine (implIsBigraph_ct _ _ sig b false _ hx hg).mono ?_
    rintro e w2 ⟨rfl, hb⟩
    go_wp2_with fail
    go_ret
    exact ⟨by rw [HN.out]; rfl, bthen hA hb⟩
  | true =>
    have HN : Hid (wiringB b = r) := by show _ = _; rw [← HR.out]; rw [hg, Bool.true_and]
    clear HR
    go_enter Tryz.func65, Tryz.ntmps65
    go_wp2_with fail
    refine (implIsBigraph_ct _ _ sig b true _ hx hg).mono ?_
    rintro e w2 ⟨rfl, hb⟩
    have BA := BA.below hb
    have hx := hx.below hb
    have hb := bthen hA hb
    have qA := BA.cell
    clear hA hg
    go_wp2_with fail
    go_ret
    exact ⟨ret_bool (by rw [← HN.out]; unfold wiringB; rw [Bool.eq_iff_iff]; simp only [beq_iff_eq, decide_eq_true_eq] <;> omega), hb⟩













end Go.Proofs.YthgelhglfbgagaaGreatDoor
