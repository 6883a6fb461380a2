/- Whether two nodes have ports of one link. -/
import Derived.Test.YtjkebiodabheiaaDoorOrder
import Derived.Test.YtjkebiodabheiaaDoorUnder
import Derived.Test.YtjkebiodabheiaaDoorParts
namespace Go.Proofs.YtjkebiodabheiaaDoor
open Go Go.RowKit Go.BigFrame

def meetL (l m : List Int) : Bool := l.any fun x => m.contains x
def meetB (b : Big) (x y : Nat) : Bool := match b.nodes[x]?, b.nodes[y]? with | some m, some n => meetL m.links n.links | _, _ => false
theorem meetB_eq {b : Big} {x y : Nat} {m n : Nd} (hx : b.nodes[x]? = some m) (hy : b.nodes[y]? = some n) : meetB b x y = meetL m.links n.links := by unfold meetB; rw [hx, hy]
theorem meetL_symm (l m : List Int) : meetL l m = meetL m l := by
  rw [Bool.eq_iff_iff]
  unfold meetL
  simp only [List.any_eq_true, List.contains_eq_mem, decide_eq_true_eq]
  constructor <;> rintro ⟨x, h1, h2⟩ <;> exact ⟨x, h2, h1⟩
theorem meetB_symm (b : Big) (i k : Nat) (h : meetB b i k = true) : meetB b k i = true := by
  unfold meetB at *
  cases h1 : b.nodes[i]? with
  | none => rw [h1] at h; simp at h
  | some m =>
    cases h2 : b.nodes[k]? with
    | none => rw [h1, h2] at h; simp at h
    | some n =>
      rw [h1, h2] at h
      simp only at h ⊢
      rw [meetL_symm]; exact h
theorem meetL_snoc {l m : List Int} {k : Nat} {x : Int} (h : (l.take k).any (fun x => m.contains x) = false) (hx : l[k]? = some x) (hc : m.contains x = false) : (l.take (k + 1)).any (fun x => m.contains x) = false := by
  rw [take_snoc_l hx, List.any_append, h]
  simp [hc]
  simpa using hc
set_option maxRecDepth 100000 in
set_option maxHeartbeats 4000000 in
theorem l2Meet_ct (v : Value) (b : Big) (x0 y0 : Nat) (m n : Nd) (r : Bool) (w : World) (h : BigAt w v b) (hx : b.nodes[x0]? = some m) (hy : b.nodes[y0]? = some n) (h8 : b.nodes.length ≤ 8) (hr : meetL m.links n.links = r) :
    Calls Tryd.prog 63 #[v, .int .i64 x0, .int .i64 y0] w fun e w' => e = .returned (.bool r) ∧ Below w.heap.size w w' := by
  have HR : Hid (meetL m.links n.links = r) := hr
  clear hr
  obtain ⟨a1, c1, a2, c2, a3, c3, a4, c4, rfl, hnds, _, _, _, _, _⟩ := h.parts
  obtain ⟨_, _, e, _, ln, n3⟩ := hnds.open
  obtain ⟨rfl, rfl⟩ := (by simpa using e : a1 = _ ∧ c1 = _)
  have hxl := (List.getElem?_eq_some_iff.1 hx).1
  have hyl := (List.getElem?_eq_some_iff.1 hy).1
  obtain ⟨_, _, bk, o, ul, rfl, hul, _, _, hc2⟩ := n3 x0 m hx
  obtain ⟨_, _, bk2, o2, vl, e2, hvl, _, _, hd2⟩ := n3 y0 n hy
  obtain ⟨rfl, rfl⟩ : bk = bk2 ∧ o = o2 := by simpa using e2
  obtain ⟨am, cm, rfl, lm1, lm2, m3⟩ := hul.open
  obtain ⟨an, cn, rfl, _, _, _⟩ := id hvl.open
  have M3 : Hid _ := m3
  have HV : Hid (IntsAt w (.slice an n.links.length cn) n.links) := hvl
  clear e e2 hnds h n3 hx hy hul m3 hvl
  go_enter Tryd.func63, Tryd.ntmps63
  go_wp2_with fail
  obtain ⟨W0, hW0⟩ : ∃ W, W = w.alloc (.cells #[.int .i64 b.roots, .slice (some ⟨bk, o, none⟩) b.nodes.length c1, .slice a2 b.sites.length c2, .int .i64 b.edges, .slice a3 b.outer.length c3, .slice a4 b.inner.length c4] 43) := ⟨_, rfl⟩
  rw [← hW0]
  have BA : Box W0 w.heap.size #[.int .i64 b.roots, .slice (some ⟨bk, o, none⟩) b.nodes.length c1, .slice a2 b.sites.length c2, .int .i64 b.edges, .slice a3 b.outer.length c3, .slice a4 b.inner.length c4] 43 := by rw [hW0]; exact Box.new _ _ _
  have hb : Below w.heap.size w W0 := by rw [hW0]; exact balloc _ _
  clear hW0
  go_loopw [7] (fun i W => ∃ k : Nat, k ≤ m.links.length ∧ i = .int .i64 k ∧ Hid ((m.links.take k).any (fun x => n.links.contains x) = false) ∧ Below w.heap.size w W ∧ Box W w.heap.size #[.int .i64 b.roots, .slice (some ⟨bk, o, none⟩) b.nodes.length c1, .slice a2 b.sites.length c2, .int .i64 b.edges, .slice a3 b.outer.length c3, .slice a4 b.inner.length c4] 43) (fun i _ => m.links.length - (intOf i).toNat)
  case atStart => exact ⟨0, Nat.zero_le _, rfl, (by show _ = _; rfl), hb, BA⟩
  case round =>
    clear hb BA W0
    obtain ⟨k, hk, rfl, HK, hb, BA⟩ := hrel
    have q := BA.cell
    have gx := (hb.cell (World.block_lt_of_cell? w _ hc2)).trans hc2
    have gy := (hb.cell (World.block_lt_of_cell? w _ hd2)).trans hd2
    by_cases hlt : k < m.links.length
    · obtain ⟨x, hx⟩ := getElem?_of_lt hlt
      obtain ⟨_, b1, o1, rfl, he⟩ := M3.out k x hx
      have ge := (hb.cell (World.block_lt_of_cell? w _ he)).trans he
      have gA := fun z => gr_cell (w := wr) (BA.cell 1) z
      have gX := fun z => gr_cell (w := wr) gx z
      have gY := fun z => gr_cell (w := wr) gy z
      have gE := fun z => gr_cell (w := wr) ge z
      have HX : Hid (m.links[k]? = some x) := hx
      clear he hx
      cases hc : n.links.contains x with
      | true =>
        have HN : Hid (r = true) := by
          show _ = _; rw [← HR.out]; unfold meetL; rw [List.any_eq_true]; exact ⟨x, List.mem_of_getElem? HX.out, hc⟩
        go_wp2_with fail
        refine wp_region_gr (by kernel_rfl) (by kernel_rfl) ?_
        repeat (go_big_quiet_step ((go_at_call 114; exact Calls.gr_same (l1Has_ct _ n.links x true hc _ (HV.out.below (bthen hb (gr_below _ _)))))))
        refine wpQuiet_nil ?_
        intro w2 hb2
        clear gA gX gY gE q ge gx gy
        go_wp2_with fail
        go_ret
        exact ⟨by rw [HN.out]; rfl, bthen hb hb2⟩
      | false =>
        have HT : Hid ((m.links.take (k + 1)).any (fun x => n.links.contains x) = false) := meetL_snoc HK.out HX.out hc
        go_wp2_with fail
        refine wp_region_gr (by kernel_rfl) (by kernel_rfl) ?_
        repeat (go_big_quiet_step ((go_at_call 114; exact Calls.gr_same (l1Has_ct _ n.links x false hc _ (HV.out.below (bthen hb (gr_below _ _)))))))
        refine wpQuiet_nil ?_
        intro w2 hb2
        clear gA gX gY gE q ge gx gy
        have BA := BA.below hb2
        have hb := bthen hb hb2
        go_wp2_with fail
        go_roundw
        case rel => exact ⟨k + 1, by omega, by go_num, HT, hb, BA⟩
        case measure => simp [intOf]; omega
    · have HN : Hid (r = false) := by
        have := HK.out
        rw [List.take_of_length_le (by omega)] at this
        show _ = _; rw [← HR.out]; exact this
      go_wp2_with fail
      go_ret
      exact ⟨by rw [HN.out]; rfl, hb⟩
end Go.Proofs.YtjkebiodabheiaaDoor
