/- Other numbers of nodes and edges: the small functions of the reference. -/
import Derived.Test.YthbdmcobpcoajaaGreatDoorG4
import Derived.Test.YthbdmcobpcoajaaGreatDoorG1
namespace Go.Proofs.YthbdmcobpcoajaaGreatDoor
open Go Go.RowKit Go.BigFrame

set_option maxHeartbeats 1000000 in
theorem l2Move_ct (v : Value) (tn : List Int) (p r : Int) (w : World) (h : IntsAt w v tn) (hp : -1073741824 ≤ p ∧ p < tn.length) (hr : moveP tn p = r) :
    Calls Tryz.prog 182 #[.int .i64 p, v] w fun e w' => e = .returned (.int .i64 r) ∧ w' = w := by
  obtain ⟨a, c, rfl, h1, h2, h3⟩ := h.open
  clear h
  by_cases hn : p < 0
  · have HR : Hid (p = r) := by show _ = _; rw [← hr]; unfold moveP; rw [if_pos hn]
    clear h3 hr
    go_enter Tryz.func182, Tryz.ntmps182
    go_wp2_with fail
    go_ret
    exact ⟨by rw [← HR.out]; rfl, rfl⟩
  · obtain ⟨k, rfl⟩ : ∃ k : Nat, p = k := ⟨p.toNat, by omega⟩
    have hk : k < tn.length := by omega
    obtain ⟨x, hx⟩ := getElem?_of_lt hk
    have HR : Hid (x = r) := by show _ = _; rw [← hr]; unfold moveP; rw [if_neg hn, Int.toNat_natCast, List.getD_eq_getElem?_getD, hx]; rfl
    obtain ⟨_, b, o, rfl, hc⟩ := h3 k x hx
    clear h3 hr hx
    go_enter Tryz.func182, Tryz.ntmps182
    go_wp2_with fail
    go_ret
    exact ⟨by rw [← HR.out]; rfl, rfl⟩
set_option maxHeartbeats 1000000 in
theorem l2Tie_ct (v0 v : Value) (g : Big) (es : List Int) (p r : Int) (w : World) (h0 : BigAt w v0 g) (h : IntsAt w v es) (hp : 0 ≤ p ∧ p < 1073741824) (hp2 : p < g.edges → p < es.length) (hr : tieP g.edges es p = r) :
    Calls Tryz.prog 181 #[v0, .int .i64 p, v] w fun e w' => e = .returned (.int .i64 r) ∧ Below w.heap.size w w' := by
  obtain ⟨a, c, rfl, h1, h2, h3⟩ := h.open
  obtain ⟨a1, c1, a2, c2, a3, c3, a4, c4, rfl⟩ := h0.shape
  clear h h0
  obtain ⟨E, hE⟩ : ∃ E, E = g.edges := ⟨_, rfl⟩
  rw [← hE] at hp2 hr ⊢
  by_cases hn : E ≤ p
  · have HR : Hid (p = r) := by show _ = _; rw [← hr]; unfold tieP; rw [if_pos hn]
    clear h3 hr hE
    go_enter Tryz.func181, Tryz.ntmps181
    go_wp2_with fail
    go_ret
    exact ⟨by rw [← HR.out]; rfl, balloc _ _⟩
  · obtain ⟨k, rfl⟩ : ∃ k : Nat, p = k := ⟨p.toNat, by omega⟩
    have hk : k < es.length := by omega
    obtain ⟨x, hx⟩ := getElem?_of_lt hk
    have HR : Hid (x = r) := by show _ = _; rw [← hr]; unfold tieP; rw [if_neg hn, Int.toNat_natCast, List.getD_eq_getElem?_getD, hx]; rfl
    obtain ⟨_, b, o, rfl, hc⟩ := h3 k x hx
    have hc1 := ((balloc w (.cells #[.int .i64 g.roots, .slice a1 g.nodes.length c1, .slice a2 g.sites.length c2, .int .i64 E, .slice a3 g.outer.length c3, .slice a4 g.inner.length c4] 34)).cell (World.block_lt_of_cell? w _ hc)).trans hc
    have hbl := World.block_lt_of_cell? w _ hc
    clear h3 hr hx hE
    go_enter Tryz.func181, Tryz.ntmps181
    go_wp2_with fail
    go_ret
    exact ⟨by rw [← HR.out]; rfl, balloc _ _⟩
set_option maxHeartbeats 1000000 in
theorem l4Parent_ct (v : Value) (ps : List Int) (by_ p r : Int) (w : World) (h : IntsAt w v ps) (hp : -(ps.length : Int) ≤ p ∧ p < 1073741824) (hy : 0 ≤ by_ ∧ by_ < 1073741824) (hr : oneP by_ ps p = r) :
    Calls Tryz.prog 178 #[.int .i64 p, .int .i64 by_, v] w fun e w' => e = .returned (.int .i64 r) ∧ w' = w := by
  obtain ⟨a, c, rfl, h1, h2, h3⟩ := h.open
  clear h
  by_cases hn : p < 0
  · obtain ⟨k, hk⟩ : ∃ k : Nat, -1 - p = k := ⟨(-1 - p).toNat, by omega⟩
    have hk2 : k < ps.length := by omega
    obtain ⟨x, hx⟩ := getElem?_of_lt hk2
    have HR : Hid (x = r) := by show _ = _; rw [← hr]; unfold oneP; rw [if_pos hn, hk, Int.toNat_natCast, List.getD_eq_getElem?_getD, hx]; rfl
    obtain ⟨_, b, o, rfl, hc⟩ := h3 k x hx
    obtain rfl : p = -1 - (k : Int) := by omega
    have e1 : (-1 : Int) - (-1 - (k : Int)) = k := by omega
    clear h3 hr hx hk
    go_enter Tryz.func178, Tryz.ntmps178
    go_wp2_with fail
    go_ret
    exact ⟨by rw [← HR.out]; rfl, rfl⟩
  · have HR : Hid (p + by_ = r) := by show _ = _; rw [← hr]; unfold oneP; rw [if_neg hn]
    clear h3 hr
    go_enter Tryz.func178, Tryz.ntmps178
    go_wp2_with fail
    go_ret
    exact ⟨by rw [← HR.out]; go_num, rfl⟩
end Go.Proofs.YthbdmcobpcoajaaGreatDoor
