/- Two bigraphs that fit. -/
import Derived.Test.YtcpakignoijphaaDoorIsA
import Derived.Test.YtcpakignoijphaaDoorBig0
import Derived.Test.YtcpakignoijphaaDoorLaw0
import Derived.Deep.RegionHeld3
namespace Go.Proofs.YtcpakignoijphaaDoor
open Go Go.RowKit Go.BigFrame

def sameN : List ByteArray → List ByteArray → Bool
  | [], [] => true
  | x :: l, y :: m => (x.toList == y.toList) && sameN l m
  | _, _ => false
theorem sameN_len {l m : List ByteArray} (h : l.length ≠ m.length) : sameN l m = false := by
  induction l generalizing m with
  | nil => cases m with | nil => exact absurd rfl h | cons y m => rfl
  | cons x l ih => cases m with
    | nil => rfl
    | cons y m => simp only [sameN]; rw [ih (by simpa using h), Bool.and_false]
theorem sameN_not {l m : List ByteArray} {k : Nat} {x y : ByteArray} (hx : l[k]? = some x) (hy : m[k]? = some y) (h : (x.toList == y.toList) = false) : sameN l m = false := by
  induction k generalizing l m with
  | zero =>
    cases l with
    | nil => simp at hx
    | cons a l => cases m with
      | nil => simp at hy
      | cons c m => simp at hx hy; subst hx hy; simp only [sameN, h, Bool.false_and]
  | succ k ih =>
    cases l with
    | nil => simp at hx
    | cons a l => cases m with
      | nil => simp at hy
      | cons c m => simp only [sameN]; rw [ih (by simpa using hx) (by simpa using hy), Bool.and_false]
theorem sameN_yes : ∀ {l m : List ByteArray}, l.length = m.length → (∀ (k : Nat) x y, l[k]? = some x → m[k]? = some y → (x.toList == y.toList) = true) → sameN l m = true
  | [], [], _, _ => rfl
  | [], _ :: _, h, _ => by simp at h
  | _ :: _, [], h, _ => by simp at h
  | x :: l, y :: m, h, ha => by
    simp only [sameN, Bool.and_eq_true]
    exact ⟨ha 0 x y rfl rfl, sameN_yes (by simpa using h) fun k a c h1 h2 => ha (k + 1) a c (by simpa using h1) (by simpa using h2)⟩
def fitsB (a b : Big) : Bool := decide ((a.sites.length : Int) = b.roots) && sameN (innerN a) b.outer

set_option maxHeartbeats 2000000 in
theorem l4Equal_ct (v1 v2 : Value) (l m : List ByteArray) (r : Bool) (w : World) (h : StrsAt w v1 l) (h' : StrsAt w v2 m) (hr : sameN l m = r) :
    Calls Tryd.prog 115 #[v1, v2] w fun e w' => e = .returned (.bool r) ∧ Below w.heap.size w w' := by
  have HR : Hid (sameN l m = r) := hr
  clear hr
  obtain ⟨a1, c1, rfl, _, hl, h1⟩ := h.open
  obtain ⟨a2, c2, rfl, _, hm, h2⟩ := h'.open
  clear h h'
  by_cases hlen : l.length = m.length
  case neg =>
    have HF : Hid (r = false) := by rw [← HR.out]; exact sameN_len hlen
    have hne : ((l.length : Int) != m.length) = true := by simp only [bne_iff_ne, ne_eq]; omega
    clear h1 h2 hlen
    go_enter Tryd.func115, Tryd.ntmps115
    go_wp2_with fail
    go_ret
    exact ⟨by rw [HF.out]; rfl, Below.refl _ _⟩
  have hne : ((l.length : Int) != m.length) = false := by simp only [bne_eq_false_iff_eq]; omega
  have HL : Hid (l.length = m.length) := hlen
  have hlm : m.length ≤ l.length := by omega
  have hml : l.length ≤ m.length := by omega
  clear hlen
  go_enter Tryd.func115, Tryd.ntmps115
  go_wp2_with fail
  go_loopw [5] (fun i W => ∃ k : Nat, k ≤ l.length ∧ i = .int .i64 k ∧ Below w.heap.size w W ∧ Hid (∀ (j : Nat) x y, j < k → l[j]? = some x → m[j]? = some y → (x.toList == y.toList) = true)) (fun i _ => l.length - (intOf i).toNat)
  case atStart => exact ⟨0, Nat.zero_le _, rfl, Below.refl _ _, fun j x y hj => absurd hj (Nat.not_lt_zero _)⟩
  case round =>
    obtain ⟨k, hk, rfl, hb, HA⟩ := hrel
    by_cases hkl : k < l.length
    · obtain ⟨x, hx⟩ := getElem?_of_lt hkl
      obtain ⟨y, hy⟩ := getElem?_of_lt (l := m) (i := k) (by omega)
      obtain ⟨_, b1, o1, rfl, hc0⟩ := h1 k x hx
      obtain ⟨_, b2, o2, rfl, hd0⟩ := h2 k y hy
      have HX : Hid (l[k]? = some x) := hx
      have HY : Hid (m[k]? = some y) := hy
      have hkm : k < m.length := by omega
      have gc0 := fun y => gr_cell (w := wr) ((hb.cell (World.block_lt_of_cell? w _ hc0)).trans hc0) y
      have gd0 := fun y => gr_cell (w := wr) ((hb.cell (World.block_lt_of_cell? w _ hd0)).trans hd0) y
      clear hc0 hd0 h1 h2 hx hy
      cases hxy : (x.toList == y.toList) with
      | false =>
        have HF : Hid (r = false) := by rw [← HR.out]; exact sameN_not HX.out HY.out hxy
        go_wp2_with fail
        refine wp_region_gr (by kernel_rfl) (by kernel_rfl) ?_
        repeat (go_big_quiet_step (fail))
        refine wpQuiet_nil ?_
        intro w2 hb2
        go_wp2_with fail
        go_ret
        exact ⟨by rw [HF.out]; rfl, bthen hb hb2⟩
      | true =>
        have HT : Hid (∀ (j : Nat) x y, j < k + 1 → l[j]? = some x → m[j]? = some y → (x.toList == y.toList) = true) := by
          intro j x' y' hj h1 h2
          by_cases hjk : j = k
          · subst hjk
            have e1 := HX.out.symm.trans h1
            have e2 := HY.out.symm.trans h2
            cases e1; cases e2; exact hxy
          · exact HA.out j x' y' (by omega) h1 h2
        go_wp2_with fail
        refine wp_region_gr (by kernel_rfl) (by kernel_rfl) ?_
        repeat (go_big_quiet_step (fail))
        refine wpQuiet_nil ?_
        intro w2 hb2
        clear hxy
        go_wp2_with fail
        go_roundw
        case rel => exact ⟨k + 1, by omega, by go_num, bthen hb hb2, HT⟩
        case measure => simp [intOf]; omega
    · have HF : Hid (r = true) := by
        rw [← HR.out]
        exact sameN_yes HL.out fun j x y h3 h4 => HA.out j x y (by have := (List.getElem?_eq_some_iff.1 h3).1; omega) h3 h4
      clear h1 h2
      go_wp2_with fail
      go_ret
      exact ⟨by rw [HF.out]; rfl, hb⟩

set_option maxHeartbeats 2000000 in
theorem equalStr_ct (v1 v2 : Value) (l m : List ByteArray) (r : Bool) (w : World) (h : StrsAt w v1 l) (h' : StrsAt w v2 m) (hr : sameN l m = r) :
    Calls Tryd.prog 116 #[v1, v2] w fun e w' => e = .returned (.bool r) ∧ Below w.heap.size w w' := by
  have HR : Hid (sameN l m = r) := hr
  clear hr
  obtain ⟨a1, c1, rfl, _, hl, h1⟩ := h.open
  obtain ⟨a2, c2, rfl, _, hm, h2⟩ := h'.open
  clear h h'
  by_cases hlen : l.length = m.length
  case neg =>
    have HF : Hid (r = false) := by rw [← HR.out]; exact sameN_len hlen
    have hne : ((l.length : Int) != m.length) = true := by simp only [bne_iff_ne, ne_eq]; omega
    clear h1 h2 hlen
    go_enter Tryd.func116, Tryd.ntmps116
    go_wp2_with fail
    go_ret
    exact ⟨by rw [HF.out]; rfl, Below.refl _ _⟩
  have hne : ((l.length : Int) != m.length) = false := by simp only [bne_eq_false_iff_eq]; omega
  have HL : Hid (l.length = m.length) := hlen
  have hlm : m.length ≤ l.length := by omega
  have hml : l.length ≤ m.length := by omega
  clear hlen
  go_enter Tryd.func116, Tryd.ntmps116
  go_wp2_with fail
  go_loopw [5, 13] (fun _ i W => ∃ k : Nat, k ≤ l.length ∧ i = .int .i64 k ∧ Below w.heap.size w W ∧ Hid (∀ (j : Nat) x y, j < k → l[j]? = some x → m[j]? = some y → (x.toList == y.toList) = true)) (fun _ i _ => l.length - (intOf i).toNat)
  case atStart => exact ⟨0, Nat.zero_le _, rfl, Below.refl _ _, fun j x y hj => absurd hj (Nat.not_lt_zero _)⟩
  case round =>
    obtain ⟨k, hk, rfl, hb, HA⟩ := hrel
    by_cases hkl : k < l.length
    · obtain ⟨x, hx⟩ := getElem?_of_lt hkl
      obtain ⟨y, hy⟩ := getElem?_of_lt (l := m) (i := k) (by omega)
      obtain ⟨_, b1, o1, rfl, hc0⟩ := h1 k x hx
      obtain ⟨_, b2, o2, rfl, hd0⟩ := h2 k y hy
      have HX : Hid (l[k]? = some x) := hx
      have HY : Hid (m[k]? = some y) := hy
      have hkm : k < m.length := by omega
      have gc0 := fun y => gr_cell (w := wr) ((hb.cell (World.block_lt_of_cell? w _ hc0)).trans hc0) y
      have gd0 := fun y => gr_cell (w := wr) ((hb.cell (World.block_lt_of_cell? w _ hd0)).trans hd0) y
      clear hc0 hd0 h1 h2 hx hy
      cases hxy : (x.toList == y.toList) with
      | false =>
        have HF : Hid (r = false) := by rw [← HR.out]; exact sameN_not HX.out HY.out hxy
        go_wp2_with fail
        refine wp_region_gr (by kernel_rfl) (by kernel_rfl) ?_
        repeat (go_big_quiet_step (fail))
        refine wpQuiet_nil ?_
        intro w2 hb2
        go_wp2_with fail
        go_ret
        exact ⟨by rw [HF.out]; rfl, bthen hb hb2⟩
      | true =>
        have HT : Hid (∀ (j : Nat) x y, j < k + 1 → l[j]? = some x → m[j]? = some y → (x.toList == y.toList) = true) := by
          intro j x' y' hj h1 h2
          by_cases hjk : j = k
          · subst hjk
            have e1 := HX.out.symm.trans h1
            have e2 := HY.out.symm.trans h2
            cases e1; cases e2; exact hxy
          · exact HA.out j x' y' (by omega) h1 h2
        go_wp2_with fail
        refine wp_region_gr (by kernel_rfl) (by kernel_rfl) ?_
        repeat (go_big_quiet_step (fail))
        refine wpQuiet_nil ?_
        intro w2 hb2
        clear hxy
        go_wp2_with fail
        go_roundw
        case rel => exact ⟨k + 1, by omega, by go_num, bthen hb hb2, HT⟩
        case measure => simp [intOf]; omega
    · have HF : Hid (r = true) := by
        rw [← HR.out]
        exact sameN_yes HL.out fun j x y h3 h4 => HA.out j x y (by have := (List.getElem?_eq_some_iff.1 h3).1; omega) h3 h4
      clear h1 h2
      go_wp2_with fail
      go_ret
      exact ⟨by rw [HF.out]; rfl, hb⟩

set_option maxRecDepth 100000 in
set_option maxHeartbeats 4000000 in
theorem l4Fits_ct (va vb : Value) (a b : Big) (r : Bool) (w : World) (ha : BigAt w va a) (hb' : BigAt w vb b) (hr : fitsB a b = r) :
    Calls Tryd.prog 77 #[va, vb] w fun e w' => e = .returned (.bool r) ∧ Below w.heap.size w w' := by
  have HR : Hid (fitsB a b = r) := hr
  have l1 := ha.lens
  have hro : I64 b.roots := by obtain ⟨_, _, _, _, _, _, _, _, _, h, _⟩ := hb'; exact h
  unfold I64 at hro
  clear hr
  obtain ⟨p1, p5, p2, p6, p3, p7, p4, p8, rfl⟩ := ha.shape
  obtain ⟨q1, q5, q2, q6, q3, q7, q4, q8, rfl⟩ := hb'.shape
  go_enter Tryd.func77, Tryd.ntmps77
  go_wp2_with fail
  obtain ⟨W1, hW1⟩ : ∃ W, W = (w.alloc (.cells #[.int .i64 a.roots, .slice p1 a.nodes.length p5, .slice p2 a.sites.length p6, .int .i64 a.edges, .slice p3 a.outer.length p7, .slice p4 a.inner.length p8] 37)).alloc (.cells #[.int .i64 b.roots, .slice q1 b.nodes.length q5, .slice q2 b.sites.length q6, .int .i64 b.edges, .slice q3 b.outer.length q7, .slice q4 b.inner.length q8] 37) := ⟨_, rfl⟩
  rw [← hW1]
  have BA : Box W1 w.heap.size #[.int .i64 a.roots, .slice p1 a.nodes.length p5, .slice p2 a.sites.length p6, .int .i64 a.edges, .slice p3 a.outer.length p7, .slice p4 a.inner.length p8] 37 := by rw [hW1]; exact (Box.new _ _ _).alloc _
  have BB : Box W1 (w.heap.size + 1) #[.int .i64 b.roots, .slice q1 b.nodes.length q5, .slice q2 b.sites.length q6, .int .i64 b.edges, .slice q3 b.outer.length q7, .slice q4 b.inner.length q8] 37 := by rw [hW1]; exact Box.new' _ _ _ (by simp)
  have hb : Below w.heap.size w W1 := by rw [hW1]; exact bthen (balloc _ _) (balloc _ _)
  have ha := ha.below hb
  have hc := hb'.below hb
  clear hW1 hb'
  by_cases hlen : (a.sites.length : Int) = b.roots
  case neg =>
    have HF : Hid (r = false) := by rw [← HR.out]; unfold fitsB; rw [decide_eq_false hlen]; rfl
    have hne : ((a.sites.length : Int) == b.roots) = false := by simpa using hlen
    have gA := fun y => (BA.gr y).cell
    have gB := fun y => (BB.gr y).cell
    refine wp_region_gr (by kernel_rfl) (by kernel_rfl) ?_
    repeat (go_big_quiet_step (fail))
    refine wpQuiet_nil ?_
    intro w2 hb2
    go_wp2_with fail
    go_ret
    exact ⟨by rw [HF.out]; rfl, bthen hb hb2⟩
  have HN : Hid (sameN (innerN a) b.outer = r) := by show _ = _; rw [← HR.out]; unfold fitsB; rw [decide_eq_true hlen, Bool.true_and]
  have hne : ((a.sites.length : Int) == b.roots) = true := by simpa using hlen
  have ho := (BigAt.fields hc).2.2.1
  clear hlen
  have b0 := bdrew (Below.refl W1.heap.size W1)
  have ha := ha.below b0
  have ho := ho.below b0
  have BA := BA.below b0
  have BB := BB.below b0
  have hb := bthen hb b0
  clear b0
  go_region_held3 (fun w' => w'.cell? ⟨w.heap.size, 0, none⟩ = some (.int .i64 a.roots) ∧ w'.cell? ⟨w.heap.size, 1, none⟩ = some (.slice p1 a.nodes.length p5) ∧ w'.cell? ⟨w.heap.size, 2, none⟩ = some (.slice p2 a.sites.length p6) ∧ w'.cell? ⟨w.heap.size, 3, none⟩ = some (.int .i64 a.edges) ∧ w'.cell? ⟨w.heap.size, 4, none⟩ = some (.slice p3 a.outer.length p7) ∧ w'.cell? ⟨w.heap.size, 5, none⟩ = some (.slice p4 a.inner.length p8) ∧ w'.cell? ⟨w.heap.size + 1, 0, none⟩ = some (.int .i64 b.roots) ∧ w'.cell? ⟨w.heap.size + 1, 1, none⟩ = some (.slice q1 b.nodes.length q5) ∧ w'.cell? ⟨w.heap.size + 1, 2, none⟩ = some (.slice q2 b.sites.length q6) ∧ w'.cell? ⟨w.heap.size + 1, 3, none⟩ = some (.int .i64 b.edges) ∧ w'.cell? ⟨w.heap.size + 1, 4, none⟩ = some (.slice q3 b.outer.length q7) ∧ w'.cell? ⟨w.heap.size + 1, 5, none⟩ = some (.slice q4 b.inner.length q8)) (first | exact ⟨BA.cell 0, BA.cell 1, BA.cell 2, BA.cell 3, BA.cell 4, BA.cell 5, BB.cell 0, BB.cell 1, BB.cell 2, BB.cell 3, BB.cell 4, BB.cell 5⟩) (first | (go_at_call 87; refine (l2Inner_ct _ a _ ha l1.2.2.2).mono ?_; rintro e w3 ⟨u, rfl, hu, bb⟩; have hu := hu.at; have BA := BA.below bb; have BB := BB.below bb; have ho := ho.below bb; have hb := bthen hb bb; clear bb) | (go_at_call 115; refine (l4Equal_ct _ _ (innerN a) b.outer _ _ hu ho HN.out).mono ?_; rintro e w4 ⟨rfl, bb⟩; have BA := BA.below bb; have BB := BB.below bb; have hb := bthen hb bb; clear bb))
  go_wp2_with fail
  go_ret
  exact ⟨rfl, hb⟩

set_option maxRecDepth 100000 in
set_option maxHeartbeats 4000000 in
theorem fits_ct (va vb : Value) (a b : Big) (r : Bool) (w : World) (ha : BigAt w va a) (hb' : BigAt w vb b) (hr : fitsB a b = r) :
    Calls Tryd.prog 78 #[va, vb] w fun e w' => e = .returned (.bool r) ∧ Below w.heap.size w w' := by
  have HR : Hid (fitsB a b = r) := hr
  have l1 := ha.lens
  have hro : I64 b.roots := by obtain ⟨_, _, _, _, _, _, _, _, _, h, _⟩ := hb'; exact h
  unfold I64 at hro
  clear hr
  obtain ⟨p1, p5, p2, p6, p3, p7, p4, p8, rfl⟩ := ha.shape
  obtain ⟨q1, q5, q2, q6, q3, q7, q4, q8, rfl⟩ := hb'.shape
  go_enter Tryd.func78, Tryd.ntmps78
  go_wp2_with fail
  obtain ⟨W1, hW1⟩ : ∃ W, W = (w.alloc (.cells #[.int .i64 a.roots, .slice p1 a.nodes.length p5, .slice p2 a.sites.length p6, .int .i64 a.edges, .slice p3 a.outer.length p7, .slice p4 a.inner.length p8] 37)).alloc (.cells #[.int .i64 b.roots, .slice q1 b.nodes.length q5, .slice q2 b.sites.length q6, .int .i64 b.edges, .slice q3 b.outer.length q7, .slice q4 b.inner.length q8] 37) := ⟨_, rfl⟩
  rw [← hW1]
  have BA : Box W1 w.heap.size #[.int .i64 a.roots, .slice p1 a.nodes.length p5, .slice p2 a.sites.length p6, .int .i64 a.edges, .slice p3 a.outer.length p7, .slice p4 a.inner.length p8] 37 := by rw [hW1]; exact (Box.new _ _ _).alloc _
  have BB : Box W1 (w.heap.size + 1) #[.int .i64 b.roots, .slice q1 b.nodes.length q5, .slice q2 b.sites.length q6, .int .i64 b.edges, .slice q3 b.outer.length q7, .slice q4 b.inner.length q8] 37 := by rw [hW1]; exact Box.new' _ _ _ (by simp)
  have hb : Below w.heap.size w W1 := by rw [hW1]; exact bthen (balloc _ _) (balloc _ _)
  have ha := ha.below hb
  have hc := hb'.below hb
  clear hW1 hb'
  by_cases hlen : (a.sites.length : Int) = b.roots
  case neg =>
    have HF : Hid (r = false) := by rw [← HR.out]; unfold fitsB; rw [decide_eq_false hlen]; rfl
    have hne : ((a.sites.length : Int) == b.roots) = false := by simpa using hlen
    have gA := fun y => (BA.gr y).cell
    have gB := fun y => (BB.gr y).cell
    refine wp_region_gr (by kernel_rfl) (by kernel_rfl) ?_
    repeat (go_big_quiet_step (fail))
    refine wpQuiet_nil ?_
    intro w2 hb2
    go_wp2_with fail
    go_ret
    exact ⟨by rw [HF.out]; rfl, bthen hb hb2⟩
  have HN : Hid (sameN (innerN a) b.outer = r) := by show _ = _; rw [← HR.out]; unfold fitsB; rw [decide_eq_true hlen, Bool.true_and]
  have hne : ((a.sites.length : Int) == b.roots) = true := by simpa using hlen
  have ho := (BigAt.fields hc).2.2.1
  clear hlen
  have b0 := bdrew (Below.refl W1.heap.size W1)
  have ha := ha.below b0
  have ho := ho.below b0
  have BA := BA.below b0
  have BB := BB.below b0
  have hb := bthen hb b0
  clear b0
  go_region_held3 (fun w' => w'.cell? ⟨w.heap.size, 0, none⟩ = some (.int .i64 a.roots) ∧ w'.cell? ⟨w.heap.size, 1, none⟩ = some (.slice p1 a.nodes.length p5) ∧ w'.cell? ⟨w.heap.size, 2, none⟩ = some (.slice p2 a.sites.length p6) ∧ w'.cell? ⟨w.heap.size, 3, none⟩ = some (.int .i64 a.edges) ∧ w'.cell? ⟨w.heap.size, 4, none⟩ = some (.slice p3 a.outer.length p7) ∧ w'.cell? ⟨w.heap.size, 5, none⟩ = some (.slice p4 a.inner.length p8) ∧ w'.cell? ⟨w.heap.size + 1, 0, none⟩ = some (.int .i64 b.roots) ∧ w'.cell? ⟨w.heap.size + 1, 1, none⟩ = some (.slice q1 b.nodes.length q5) ∧ w'.cell? ⟨w.heap.size + 1, 2, none⟩ = some (.slice q2 b.sites.length q6) ∧ w'.cell? ⟨w.heap.size + 1, 3, none⟩ = some (.int .i64 b.edges) ∧ w'.cell? ⟨w.heap.size + 1, 4, none⟩ = some (.slice q3 b.outer.length q7) ∧ w'.cell? ⟨w.heap.size + 1, 5, none⟩ = some (.slice q4 b.inner.length q8)) (first | exact ⟨BA.cell 0, BA.cell 1, BA.cell 2, BA.cell 3, BA.cell 4, BA.cell 5, BB.cell 0, BB.cell 1, BB.cell 2, BB.cell 3, BB.cell 4, BB.cell 5⟩) (first | (go_at_call 88; refine (innerNames_ct _ a _ ha l1.2.2.2).mono ?_; rintro e w3 ⟨u, rfl, hu, bb⟩; have hu := hu.at; have BA := BA.below bb; have BB := BB.below bb; have ho := ho.below bb; have hb := bthen hb bb; clear bb) | (go_at_call 116; refine (equalStr_ct _ _ (innerN a) b.outer _ _ hu ho HN.out).mono ?_; rintro e w4 ⟨rfl, bb⟩; have BA := BA.below bb; have BB := BB.below bb; have hb := bthen hb bb; clear bb))
  go_wp2_with fail
  go_ret
  exact ⟨rfl, hb⟩

set_option maxRecDepth 100000 in
set_option maxHeartbeats 4000000 in
theorem specFitsAfter_ct (vs va vb : Value) (sig : List Ctl) (a b : Big) (w : World) (h1 : CtlsAt w vs sig) (h2 : BigAt w va a) (h3 : BigAt w vb b) :
    Calls Tryd.prog 33 #[vs, va, vb] w fun e w' => e = .returned (.tuple #[.bool (goodB sig a && (goodB sig b && fitsB a b)), .bool (goodB sig a && goodB sig b)]) ∧ Below w.heap.size w w' := by
  obtain ⟨p1, p5, p2, p6, p3, p7, p4, p8, rfl⟩ := h2.shape
  obtain ⟨q1, q5, q2, q6, q3, q7, q4, q8, rfl⟩ := h3.shape
  have hb : Below w.heap.size w ((w.alloc (.cells #[.int .i64 a.roots, .slice p1 a.nodes.length p5, .slice p2 a.sites.length p6, .int .i64 a.edges, .slice p3 a.outer.length p7, .slice p4 a.inner.length p8] 37)).alloc (.cells #[.int .i64 b.roots, .slice q1 b.nodes.length q5, .slice q2 b.sites.length q6, .int .i64 b.edges, .slice q3 b.outer.length q7, .slice q4 b.inner.length q8] 37)) := bthen (balloc _ _) (balloc _ _)
  have BA : Box ((w.alloc (.cells #[.int .i64 a.roots, .slice p1 a.nodes.length p5, .slice p2 a.sites.length p6, .int .i64 a.edges, .slice p3 a.outer.length p7, .slice p4 a.inner.length p8] 37)).alloc (.cells #[.int .i64 b.roots, .slice q1 b.nodes.length q5, .slice q2 b.sites.length q6, .int .i64 b.edges, .slice q3 b.outer.length q7, .slice q4 b.inner.length q8] 37)) w.heap.size #[.int .i64 a.roots, .slice p1 a.nodes.length p5, .slice p2 a.sites.length p6, .int .i64 a.edges, .slice p3 a.outer.length p7, .slice p4 a.inner.length p8] 37 := (Box.new _ _ _).alloc _
  have BB : Box ((w.alloc (.cells #[.int .i64 a.roots, .slice p1 a.nodes.length p5, .slice p2 a.sites.length p6, .int .i64 a.edges, .slice p3 a.outer.length p7, .slice p4 a.inner.length p8] 37)).alloc (.cells #[.int .i64 b.roots, .slice q1 b.nodes.length q5, .slice q2 b.sites.length q6, .int .i64 b.edges, .slice q3 b.outer.length q7, .slice q4 b.inner.length q8] 37)) (w.heap.size + 1) #[.int .i64 b.roots, .slice q1 b.nodes.length q5, .slice q2 b.sites.length q6, .int .i64 b.edges, .slice q3 b.outer.length q7, .slice q4 b.inner.length q8] 37 := Box.new' _ _ _ (by simp)
  have h1 := h1.below hb
  have h2 := h2.below hb
  have h3 := h3.below hb
  cases ga : goodB sig a with
  | false =>
    rw [Bool.false_and, Bool.false_and]
    go_enter Tryd.func33, Tryd.ntmps33
    go_wp2_with fail
    refine (l2Good_ct _ _ sig a false _ ⟨h1, h2⟩ ga).mono ?_
    rintro e w2 ⟨rfl, bb⟩
    go_wp2_with fail
    go_ret2
    exact ⟨rfl, bthen hb bb⟩
  | true =>
    rw [Bool.true_and, Bool.true_and]
    cases gb : goodB sig b with
    | false =>
      rw [Bool.false_and]
      go_enter Tryd.func33, Tryd.ntmps33
      go_wp2_with fail
      refine (l2Good_ct _ _ sig a true _ ⟨h1, h2⟩ ga).mono ?_
      rintro e w2 ⟨rfl, bb⟩
      have qB := (BB.below bb).cell
      clear ga
      go_wp2_with fail
      refine (l2Good_ct _ _ sig b false _ ⟨h1.below bb, h3.below bb⟩ gb).mono ?_
      rintro e w3 ⟨rfl, bb2⟩
      go_wp2_with fail
      go_ret2
      exact ⟨rfl, bthen (bthen hb bb) bb2⟩
    | true =>
      rw [Bool.true_and]
      obtain ⟨r, hr⟩ : ∃ r, r = fitsB a b := ⟨_, rfl⟩
      rw [← hr]
      have HR : Hid (fitsB a b = r) := hr.symm
      clear hr
      go_enter Tryd.func33, Tryd.ntmps33
      go_wp2_with fail
      refine (l2Good_ct _ _ sig a true _ ⟨h1, h2⟩ ga).mono ?_
      rintro e w2 ⟨rfl, bb⟩
      have BA := BA.below bb
      have BB := BB.below bb
      have h1 := h1.below bb
      have h2 := h2.below bb
      have h3 := h3.below bb
      have hb := bthen hb bb
      have qA := BA.cell
      have qB := BB.cell
      clear ga bb
      go_wp2_with fail
      refine (l2Good_ct _ _ sig b true _ ⟨h1, h3⟩ gb).mono ?_
      rintro e w3 ⟨rfl, bb⟩
      have BA := BA.below bb
      have BB := BB.below bb
      have h2 := h2.below bb
      have h3 := h3.below bb
      have hb := bthen hb bb
      clear qA qB gb bb
      have qA := BA.cell
      have qB := BB.cell
      go_wp2_with fail
      refine (l4Fits_ct _ _ a b r _ h2 h3 HR.out).mono ?_
      rintro e w4 ⟨rfl, bb⟩
      go_wp2_with fail
      go_ret2
      exact ⟨rfl, bthen hb bb⟩

set_option maxRecDepth 100000 in
set_option maxHeartbeats 4000000 in
theorem implFitsAfter_ct (vs va vb : Value) (sig : List Ctl) (a b : Big) (w : World) (h1 : CtlsAt w vs sig) (h2 : BigAt w va a) (h3 : BigAt w vb b) :
    Calls Tryd.prog 34 #[vs, va, vb] w fun e w' => e = .returned (.tuple #[.bool (goodB sig a && (goodB sig b && fitsB a b)), .bool (goodB sig a && goodB sig b)]) ∧ Below w.heap.size w w' := by
  obtain ⟨p1, p5, p2, p6, p3, p7, p4, p8, rfl⟩ := h2.shape
  obtain ⟨q1, q5, q2, q6, q3, q7, q4, q8, rfl⟩ := h3.shape
  have hb : Below w.heap.size w ((w.alloc (.cells #[.int .i64 a.roots, .slice p1 a.nodes.length p5, .slice p2 a.sites.length p6, .int .i64 a.edges, .slice p3 a.outer.length p7, .slice p4 a.inner.length p8] 37)).alloc (.cells #[.int .i64 b.roots, .slice q1 b.nodes.length q5, .slice q2 b.sites.length q6, .int .i64 b.edges, .slice q3 b.outer.length q7, .slice q4 b.inner.length q8] 37)) := bthen (balloc _ _) (balloc _ _)
  have BA : Box ((w.alloc (.cells #[.int .i64 a.roots, .slice p1 a.nodes.length p5, .slice p2 a.sites.length p6, .int .i64 a.edges, .slice p3 a.outer.length p7, .slice p4 a.inner.length p8] 37)).alloc (.cells #[.int .i64 b.roots, .slice q1 b.nodes.length q5, .slice q2 b.sites.length q6, .int .i64 b.edges, .slice q3 b.outer.length q7, .slice q4 b.inner.length q8] 37)) w.heap.size #[.int .i64 a.roots, .slice p1 a.nodes.length p5, .slice p2 a.sites.length p6, .int .i64 a.edges, .slice p3 a.outer.length p7, .slice p4 a.inner.length p8] 37 := (Box.new _ _ _).alloc _
  have BB : Box ((w.alloc (.cells #[.int .i64 a.roots, .slice p1 a.nodes.length p5, .slice p2 a.sites.length p6, .int .i64 a.edges, .slice p3 a.outer.length p7, .slice p4 a.inner.length p8] 37)).alloc (.cells #[.int .i64 b.roots, .slice q1 b.nodes.length q5, .slice q2 b.sites.length q6, .int .i64 b.edges, .slice q3 b.outer.length q7, .slice q4 b.inner.length q8] 37)) (w.heap.size + 1) #[.int .i64 b.roots, .slice q1 b.nodes.length q5, .slice q2 b.sites.length q6, .int .i64 b.edges, .slice q3 b.outer.length q7, .slice q4 b.inner.length q8] 37 := Box.new' _ _ _ (by simp)
  have h1 := h1.below hb
  have h2 := h2.below hb
  have h3 := h3.below hb
  cases ga : goodB sig a with
  | false =>
    rw [Bool.false_and, Bool.false_and]
    go_enter Tryd.func34, Tryd.ntmps34
    go_wp2_with fail
    refine (implIsBigraph_ct _ _ sig a false _ ⟨h1, h2⟩ ga).mono ?_
    rintro e w2 ⟨rfl, bb⟩
    go_wp2_with fail
    go_ret2
    exact ⟨rfl, bthen hb bb⟩
  | true =>
    rw [Bool.true_and, Bool.true_and]
    cases gb : goodB sig b with
    | false =>
      rw [Bool.false_and]
      go_enter Tryd.func34, Tryd.ntmps34
      go_wp2_with fail
      refine (implIsBigraph_ct _ _ sig a true _ ⟨h1, h2⟩ ga).mono ?_
      rintro e w2 ⟨rfl, bb⟩
      have qB := (BB.below bb).cell
      clear ga
      go_wp2_with fail
      refine (implIsBigraph_ct _ _ sig b false _ ⟨h1.below bb, h3.below bb⟩ gb).mono ?_
      rintro e w3 ⟨rfl, bb2⟩
      go_wp2_with fail
      go_ret2
      exact ⟨rfl, bthen (bthen hb bb) bb2⟩
    | true =>
      rw [Bool.true_and]
      obtain ⟨r, hr⟩ : ∃ r, r = fitsB a b := ⟨_, rfl⟩
      rw [← hr]
      have HR : Hid (fitsB a b = r) := hr.symm
      clear hr
      go_enter Tryd.func34, Tryd.ntmps34
      go_wp2_with fail
      refine (implIsBigraph_ct _ _ sig a true _ ⟨h1, h2⟩ ga).mono ?_
      rintro e w2 ⟨rfl, bb⟩
      have BA := BA.below bb
      have BB := BB.below bb
      have h1 := h1.below bb
      have h2 := h2.below bb
      have h3 := h3.below bb
      have hb := bthen hb bb
      have qA := BA.cell
      have qB := BB.cell
      clear ga bb
      go_wp2_with fail
      refine (implIsBigraph_ct _ _ sig b true _ ⟨h1, h3⟩ gb).mono ?_
      rintro e w3 ⟨rfl, bb⟩
      have BA := BA.below bb
      have BB := BB.below bb
      have h2 := h2.below bb
      have h3 := h3.below bb
      have hb := bthen hb bb
      clear qA qB gb bb
      have qA := BA.cell
      have qB := BB.cell
      go_wp2_with fail
      refine (fits_ct _ _ a b r _ h2 h3 HR.out).mono ?_
      rintro e w4 ⟨rfl, bb⟩
      go_wp2_with fail
      go_ret2
      exact ⟨rfl, bthen hb bb⟩
end Go.Proofs.YtcpakignoijphaaDoor
