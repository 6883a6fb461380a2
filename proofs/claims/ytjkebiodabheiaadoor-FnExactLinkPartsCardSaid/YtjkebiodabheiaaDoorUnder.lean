/- Links and parents: the reference's tests and the program's. -/
import Derived.Test.YtjkebiodabheiaaDoorSig
import Derived.Test.YtjkebiodabheiaaDoorElem1
namespace Go.Proofs.YtjkebiodabheiaaDoor
open Go Go.RowKit Go.BigFrame

/-- The first n nodes are there, and their controls. -/
def okN (sig : List Ctl) (b : Big) (n : Nat) : Prop := ∀ k, k < n → ∃ nd c, b.nodes[k]? = some nd ∧ 0 ≤ nd.ctl ∧ sig[nd.ctl.toNat]? = some c
theorem okN_of {sig : List Ctl} {b : Big} {n : Nat} (hn : n ≤ b.nodes.length) (h : (List.range n).all (nodeStep sig b) = true) : okN sig b n := by
  intro k hk
  obtain ⟨nd, hnd⟩ := getElem?_of_lt (show k < b.nodes.length by omega)
  have := List.all_eq_true.1 h k (List.mem_range.2 hk)
  rw [nodeStep_eq hnd] at this
  have := node_ctl this
  obtain ⟨c, hc⟩ := getElem?_of_lt (l := sig) (i := nd.ctl.toNat) (by omega)
  exact ⟨nd, c, hnd, this.1, hc⟩
theorem BigAt.outer_len {w : World} {v : Value} {b : Big} (h : BigAt w v b) : b.outer.length ≤ 1073741824 := by
  obtain ⟨vn, vq, vo, vi, rfl, _, _, h3, _⟩ := h
  obtain ⟨_, _, _, _, h, _⟩ := h3.open
  exact h
theorem BigAt.parts {w : World} {v : Value} {b : Big} (h : BigAt w v b) : ∃ a1 c1 a2 c2 a3 c3 a4 c4, v = .agg #[.int .i64 b.roots, .slice a1 b.nodes.length c1, .slice a2 b.sites.length c2, .int .i64 b.edges, .slice a3 b.outer.length c3, .slice a4 b.inner.length c4] ∧
    NdsAt w (.slice a1 b.nodes.length c1) b.nodes ∧ IntsAt w (.slice a2 b.sites.length c2) b.sites ∧ StrsAt w (.slice a3 b.outer.length c3) b.outer ∧ WrsAt w (.slice a4 b.inner.length c4) b.inner ∧ I64 b.roots ∧ I64 b.edges := by
  obtain ⟨vn, vs, vo, vi, rfl, h1, h2, h3, h4, h5, h6⟩ := h
  obtain ⟨a1, c1, rfl, _⟩ := h1.open
  obtain ⟨a2, c2, rfl, _⟩ := h2.open
  obtain ⟨a3, c3, rfl, _⟩ := h3.open
  obtain ⟨a4, c4, rfl, _⟩ := h4.open
  exact ⟨a1, c1, a2, c2, a3, c3, a4, c4, rfl, h1, h2, h3, h4, h5, h6⟩

set_option maxHeartbeats 1000000 in
theorem l2Link_ct (v : Value) (b : Big) (x : Int) (r : Bool) (w : World) (h : BigAt w v b) (he : 0 ≤ b.edges ∧ b.edges ≤ 8) (hr : linkB b x = r) :
    Calls Tryd.prog 95 #[v, .int .i64 x] w fun e w' => e = .returned (.bool r) ∧ Below w.heap.size w w' := by
  have HR : Hid (linkB b x = r) := hr
  have hl := h.outer_len
  clear hr
  obtain ⟨a1, c1, a2, c2, a3, c3, a4, c4, rfl⟩ := h.shape
  clear h
  go_enter Tryd.func95, Tryd.ntmps95
  go_wp2_with fail
  refine (l1In_ct _ _ _ r (by rw [← HR.out]; unfold linkB; rw [decide_eq_true_iff]) _).mono ?_
  rintro e w2 ⟨rfl, rfl⟩
  go_wp2_with fail
  go_ret
  exact ⟨rfl, balloc _ _⟩

set_option maxHeartbeats 1000000 in
theorem isLink_ct (v : Value) (b : Big) (x : Int) (r : Bool) (w : World) (h : BigAt w v b) (he : 0 ≤ b.edges ∧ b.edges ≤ 8) (hr : linkB b x = r) :
    Calls Tryd.prog 103 #[v, .int .i64 x] w fun e w' => e = .returned (.bool r) ∧ Below w.heap.size w w' := by
  have HR : Hid (linkB b x = r) := hr
  have hl := h.outer_len
  clear hr
  obtain ⟨a1, c1, a2, c2, a3, c3, a4, c4, rfl⟩ := h.shape
  clear h
  go_enter Tryd.func103, Tryd.ntmps103
  go_wp2_with fail
  refine (within_ct _ _ _ r (by rw [← HR.out]; unfold linkB; rw [decide_eq_true_iff]) _).mono ?_
  rintro e w2 ⟨rfl, rfl⟩
  go_wp2_with fail
  go_ret
  exact ⟨rfl, balloc _ _⟩

set_option maxHeartbeats 2000000 in
theorem l2Under_ct (vs v : Value) (sig : List Ctl) (b : Big) (p : Int) (n : Nat) (r : Bool) (w : World) (hs : CtlsAt w vs sig) (h : BigAt w v b) (hp : I64 p) (hro : 0 ≤ b.roots ∧ b.roots ≤ 4) (_ : n ≤ 1073741824)
    (hok : okN sig b n) (hr : underB sig b n p = r) : Calls Tryd.prog 94 #[vs, v, .int .i64 p, .int .i64 n] w fun e w' => e = .returned (.bool r) ∧ Below w.heap.size w w' := by
  have HR : Hid (underB sig b n p = r) := hr
  clear hr
  unfold I64 at hp
  obtain ⟨vn, vq, vo, vi, rfl, hnd, -⟩ := h
  obtain ⟨a, c, rfl, k1, k2, k3⟩ := hs.open
  obtain ⟨a', c', rfl, m1, m2, m3⟩ := hnd.open
  clear hs hnd
  have hA := balloc w (.cells #[.int .i64 b.roots, .slice a' b.nodes.length c', vq, .int .i64 b.edges, vo, vi] 43)
  by_cases h0 : p < 0
  · have HN : Hid (decide (-b.roots ≤ p) = r) := by show _ = _; rw [← HR.out]; unfold underB; rw [if_pos h0]
    clear k3 m3 hok
    go_enter Tryd.func94, Tryd.ntmps94
    go_wp2_with fail
    refine (l1In_ct _ _ _ r (by rw [← HN.out, decide_eq_true_iff]; omega) _).mono ?_
    rintro e w2 ⟨rfl, rfl⟩
    go_wp2_with fail
    go_ret
    exact ⟨rfl, hA⟩
  · obtain ⟨k, rfl⟩ : ∃ k : Nat, p = k := ⟨p.toNat, by omega⟩
    by_cases h1 : k < n
    · obtain ⟨nd, ct, hnd, hc0, hct⟩ := hok k h1
      obtain ⟨j, hj⟩ : ∃ j : Nat, nd.ctl = j := ⟨nd.ctl.toNat, by omega⟩
      rw [hj] at hct
      simp only [Int.toNat_natCast] at hct
      have HN : Hid ((!decide (ct.kind = 2)) = r) := by
        show _ = _; rw [← HR.out]; unfold underB solidB
        rw [if_neg h0, decide_eq_true (show (k : Int) < (n : Int) by omega), Int.toNat_natCast, hnd]
        simp only [hj, Int.toNat_natCast, hct, Bool.true_and]
      have hkl := (List.getElem?_eq_some_iff.1 hnd).1
      have hjl := (List.getElem?_eq_some_iff.1 hct).1
      obtain ⟨_, hpar, b1, o1, u1, rfl, _, e0, e1, e2⟩ := m3 k nd hnd
      obtain ⟨_, _, _, b2, o2, rfl, f0, f1, f2⟩ := k3 j ct hct
      rw [hj] at e0
      have e0 := (hA.cell (World.block_lt_of_cell? w _ e0)).trans e0
      have f2 := (hA.cell (World.block_lt_of_cell? w _ f2)).trans f2
      clear e1 e2 f0 f1 k3 m3 hok hnd hct hj hc0
      have hkl' : (k : Int) < (b.nodes.length : Int) := by omega
      have hjl' : (j : Int) < (sig.length : Int) := by omega
      by_cases hk2 : ct.kind = 2
      · have HN : Hid (r = false) := by rw [← HN.out, decide_eq_true hk2]; rfl
        rw [hk2] at f2
        clear hk2
        go_enter Tryd.func94, Tryd.ntmps94
        go_wp2_with fail
        go_ret
        exact ⟨by rw [HN.out]; rfl, hA⟩
      · have HN : Hid (r = true) := by rw [← HN.out, decide_eq_false hk2]; rfl
        have hk3 : (ct.kind != 2) = true := by simpa using hk2
        go_enter Tryd.func94, Tryd.ntmps94
        go_wp2_with fail
        go_ret
        exact ⟨by rw [HN.out]; (try rfl); (try simp [hk3]), hA⟩
    · have HN : Hid (r = false) := by
        rw [← HR.out]; unfold underB
        rw [if_neg h0, decide_eq_false (show ¬ (k : Int) < (n : Int) by omega)]; rfl
      clear k3 m3 hok
      go_enter Tryd.func94, Tryd.ntmps94
      go_wp2_with fail
      go_ret
      exact ⟨by rw [HN.out]; rfl, hA⟩

set_option maxHeartbeats 2000000 in
theorem isParent_ct (vs v : Value) (sig : List Ctl) (b : Big) (p : Int) (n : Nat) (r : Bool) (w : World) (hs : CtlsAt w vs sig) (h : BigAt w v b) (hp : I64 p) (hro : 0 ≤ b.roots ∧ b.roots ≤ 4) (_ : n ≤ 1073741824)
    (hok : okN sig b n) (hr : underB sig b n p = r) : Calls Tryd.prog 101 #[v, vs, .int .i64 p, .int .i64 n] w fun e w' => e = .returned (.bool r) ∧ Below w.heap.size w w' := by
  have HR : Hid (underB sig b n p = r) := hr
  clear hr
  unfold I64 at hp
  obtain ⟨vn, vq, vo, vi, rfl, hnd, -⟩ := h
  obtain ⟨a, c, rfl, k1, k2, k3⟩ := hs.open
  obtain ⟨a', c', rfl, m1, m2, m3⟩ := hnd.open
  clear hs hnd
  have hA := balloc w (.cells #[.int .i64 b.roots, .slice a' b.nodes.length c', vq, .int .i64 b.edges, vo, vi] 43)
  by_cases h0 : p < 0
  · have HN : Hid (decide (-b.roots ≤ p) = r) := by show _ = _; rw [← HR.out]; unfold underB; rw [if_pos h0]
    clear k3 m3 hok
    go_enter Tryd.func101, Tryd.ntmps101
    go_wp2_with fail
    go_ret
    exact ⟨ret_bool (by rw [← HN.out]; (try simp); (try omega)), hA⟩
  · obtain ⟨k, rfl⟩ : ∃ k : Nat, p = k := ⟨p.toNat, by omega⟩
    by_cases h1 : k < n
    · obtain ⟨nd, ct, hnd, hc0, hct⟩ := hok k h1
      obtain ⟨j, hj⟩ : ∃ j : Nat, nd.ctl = j := ⟨nd.ctl.toNat, by omega⟩
      rw [hj] at hct
      simp only [Int.toNat_natCast] at hct
      have HN : Hid ((!decide (ct.kind = 2)) = r) := by
        show _ = _; rw [← HR.out]; unfold underB solidB
        rw [if_neg h0, decide_eq_true (show (k : Int) < (n : Int) by omega), Int.toNat_natCast, hnd]
        simp only [hj, Int.toNat_natCast, hct, Bool.true_and]
      have hkl := (List.getElem?_eq_some_iff.1 hnd).1
      have hjl := (List.getElem?_eq_some_iff.1 hct).1
      obtain ⟨_, hpar, b1, o1, u1, rfl, _, e0, e1, e2⟩ := m3 k nd hnd
      obtain ⟨_, _, _, b2, o2, rfl, f0, f1, f2⟩ := k3 j ct hct
      rw [hj] at e0
      have e0 := (hA.cell (World.block_lt_of_cell? w _ e0)).trans e0
      have f2 := (hA.cell (World.block_lt_of_cell? w _ f2)).trans f2
      clear e1 e2 f0 f1 k3 m3 hok hnd hct hj hc0
      have hkl' : (k : Int) < (b.nodes.length : Int) := by omega
      have hjl' : (j : Int) < (sig.length : Int) := by omega
      by_cases hk2 : ct.kind = 2
      · have HN : Hid (r = false) := by rw [← HN.out, decide_eq_true hk2]; rfl
        rw [hk2] at f2
        clear hk2
        go_enter Tryd.func101, Tryd.ntmps101
        go_wp2_with fail
        go_ret
        exact ⟨by rw [HN.out]; rfl, hA⟩
      · have HN : Hid (r = true) := by rw [← HN.out, decide_eq_false hk2]; rfl
        have hk3 : (ct.kind != 2) = true := by simpa using hk2
        go_enter Tryd.func101, Tryd.ntmps101
        go_wp2_with fail
        go_ret
        exact ⟨by rw [HN.out]; (try rfl); (try simp [hk3]), hA⟩
    · have HN : Hid (r = false) := by
        rw [← HR.out]; unfold underB
        rw [if_neg h0, decide_eq_false (show ¬ (k : Int) < (n : Int) by omega)]; rfl
      clear k3 m3 hok
      go_enter Tryd.func101, Tryd.ntmps101
      go_wp2_with fail
      go_ret
      exact ⟨by rw [HN.out]; rfl, hA⟩

end Go.Proofs.YtjkebiodabheiaaDoor
