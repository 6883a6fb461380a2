/- InnerNames: the reference's and the program's. -/
import Derived.Test.YtcpakignoijphaaDoorIsA
import Derived.Test.YtcpakignoijphaaDoorLaw1
namespace Go.Proofs.YtcpakignoijphaaDoor
open Go Go.RowKit Go.BigFrame

def innerR (sig : List Ctl) (b : Big) : List ByteArray := if goodB sig b then innerN b else []
theorem innerR_len (sig : List Ctl) (b : Big) : ((innerR sig b).length : Int) ≤ 100000000 := by
  unfold innerR
  split
  · rename_i h; have := names_len (good_of h).inner; simp only [List.length_map] at this; simp [innerN]; omega
  · simp
set_option maxHeartbeats 2000000 in
theorem specInnerNames_ct (vs v : Value) (sig : List Ctl) (b : Big) (w : World) (h : Ctx w vs v sig b) : Calls Tryd.prog 43 #[vs, v] w (GivesStrs (innerR sig b) (goodB sig b) w) := by
  obtain ⟨a1, c1, a2, c2, a3, c3, a4, c4, rfl⟩ := h.big.shape
  have hA := balloc w (.cells #[.int .i64 b.roots, .slice a1 b.nodes.length c1, .slice a2 b.sites.length c2, .int .i64 b.edges, .slice a3 b.outer.length c3, .slice a4 b.inner.length c4] 37)
  have hx := h.below hA
  have BA : Box (w.alloc (.cells #[.int .i64 b.roots, .slice a1 b.nodes.length c1, .slice a2 b.sites.length c2, .int .i64 b.edges, .slice a3 b.outer.length c3, .slice a4 b.inner.length c4] 37)) w.heap.size #[.int .i64 b.roots, .slice a1 b.nodes.length c1, .slice a2 b.sites.length c2, .int .i64 b.edges, .slice a3 b.outer.length c3, .slice a4 b.inner.length c4] 37 := Box.new _ _ _
  cases hg : goodB sig b with
  | false =>
    have HN : Hid (innerR sig b = []) := by show _ = _; unfold innerR; rw [hg]; rfl
    rw [HN.out]
    go_enter Tryd.func43, Tryd.ntmps43
    go_wp2_with fail
    refine (l2Good_ct _ _ sig b false _ hx hg).mono ?_
    rintro e w2 ⟨rfl, hb⟩
    go_wp2_with fail
    go_ret2
    exact ⟨_, rfl, ⟨own_none _ _ _ _ _, by simp, fun n hn => (by cases hn)⟩, bthen (bthen hA hb) (balloc _ _)⟩
  | true =>
    have hG := good_of hg
    have HN : Hid (innerR sig b = innerN b) := by show _ = _; unfold innerR; rw [hg]; rfl
    rw [HN.out]
    go_enter Tryd.func43, Tryd.ntmps43
    go_wp2_with fail
    refine (l2Good_ct _ _ sig b true _ hx hg).mono ?_
    rintro e w2 ⟨rfl, hb⟩
    have qA := (BA.below hb).cell
    have hx := hx.below hb
    have hb := bthen hA hb
    have hl := hx.big.lens.2.2.2
    clear hA hg hG
    go_wp2_with fail
    refine (l2Inner_ct _ b _ hx.big hl).mono ?_
    rintro e w3 ⟨u, rfl, hu, hb3⟩
    go_wp2_with fail
    go_ret2
    exact ⟨_, rfl, ⟨hu.1.mono hb.size, hu.2⟩, bthen hb hb3⟩
set_option maxHeartbeats 2000000 in
theorem implInnerNames_ct (vs v : Value) (sig : List Ctl) (b : Big) (w : World) (h : Ctx w vs v sig b) : Calls Tryd.prog 44 #[vs, v] w (GivesStrs (innerR sig b) (goodB sig b) w) := by
  obtain ⟨a1, c1, a2, c2, a3, c3, a4, c4, rfl⟩ := h.big.shape
  have hA := balloc w (.cells #[.int .i64 b.roots, .slice a1 b.nodes.length c1, .slice a2 b.sites.length c2, .int .i64 b.edges, .slice a3 b.outer.length c3, .slice a4 b.inner.length c4] 37)
  have hx := h.below hA
  have BA : Box (w.alloc (.cells #[.int .i64 b.roots, .slice a1 b.nodes.length c1, .slice a2 b.sites.length c2, .int .i64 b.edges, .slice a3 b.outer.length c3, .slice a4 b.inner.length c4] 37)) w.heap.size #[.int .i64 b.roots, .slice a1 b.nodes.length c1, .slice a2 b.sites.length c2, .int .i64 b.edges, .slice a3 b.outer.length c3, .slice a4 b.inner.length c4] 37 := Box.new _ _ _
  cases hg : goodB sig b with
  | false =>
    have HN : Hid (innerR sig b = []) := by show _ = _; unfold innerR; rw [hg]; rfl
    rw [HN.out]
    go_enter Tryd.func44, Tryd.ntmps44
    go_wp2_with fail
    refine (implIsBigraph_ct _ _ sig b false _ hx hg).mono ?_
    rintro e w2 ⟨rfl, hb⟩
    go_wp2_with fail
    go_ret2
    exact ⟨_, rfl, ⟨own_none _ _ _ _ _, by simp, fun n hn => (by cases hn)⟩, bthen hA hb⟩
  | true =>
    have hG := good_of hg
    have HN : Hid (innerR sig b = innerN b) := by show _ = _; unfold innerR; rw [hg]; rfl
    rw [HN.out]
    go_enter Tryd.func44, Tryd.ntmps44
    go_wp2_with fail
    refine (implIsBigraph_ct _ _ sig b true _ hx hg).mono ?_
    rintro e w2 ⟨rfl, hb⟩
    have qA := (BA.below hb).cell
    have hx := hx.below hb
    have hb := bthen hA hb
    have hl := hx.big.lens.2.2.2
    clear hA hg hG
    go_wp2_with fail
    refine (innerNames_ct _ b _ hx.big hl).mono ?_
    rintro e w3 ⟨u, rfl, hu, hb3⟩
    go_wp2_with fail
    go_ret2
    exact ⟨_, rfl, ⟨hu.1.mono hb.size, hu.2⟩, bthen hb hb3⟩
end Go.Proofs.YtcpakignoijphaaDoor
