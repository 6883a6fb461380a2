/- Whether a bigraph is an identity: the program's way; both functions. -/
import Derived.Test.YtjkebiodabheiaaDoorSame
namespace Go.Proofs.YtjkebiodabheiaaDoor
open Go Go.RowKit Go.BigFrame

theorem sameN_refl : ∀ (l : List ByteArray), sameN l l = true
  | [] => rfl
  | x :: l => by simp [sameN, sameN_refl l]
theorem equalInt_ct (v1 v2 : Value) (l m : List Int) (r : Bool) (hr : decide (l = m) = r) (w : World) (h : IntsAt w v1 l) (h' : IntsAt w v2 m) :
    Calls Tryd.prog 107 #[v1, v2] w fun e w' => e = .returned (.bool r) ∧ Below w.heap.size w w' := by
  obtain ⟨a1, c1, rfl, _, hl, h1⟩ := h.open
  obtain ⟨a2, c2, rfl, _, hm, h2⟩ := h'.open
  by_cases hlen : l.length = m.length
  · cases hl0 : l with
    | nil =>
      have hm0 : m = [] := by cases m with | nil => rfl | cons y m => simp [hl0] at hlen
      subst hl0 hm0
      refine (Tryd.slices_Equal_int_empty a1 a2 c1 0 c2 w (by omega)).mono ?_
      rintro e w' ⟨rfl, rfl⟩
      exact ⟨by rw [← hr]; rfl, Below.refl _ _⟩
    | cons x l' =>
      obtain ⟨_, b1, o1, rfl, _⟩ := h1 0 x (by rw [hl0]; rfl)
      obtain ⟨y, hy⟩ := getElem?_of_lt (show 0 < m.length by rw [← hlen, hl0]; simp)
      obtain ⟨_, b2, o2, rfl, _⟩ := h2 0 y hy
      rw [← hl0]
      refine (Tryd.slices_Equal_int b1 o1 l.length c1 b2 o2 m.length c2 l m w (Nat.le_refl _) (Nat.le_refl _) (by omega) (by omega) (fun j hj => ?_) (fun j hj => ?_)).mono ?_
      · obtain ⟨y, hy⟩ := getElem?_of_lt hj
        obtain ⟨_, b', o', e', hc⟩ := h1 j y hy
        obtain ⟨rfl, rfl⟩ : b1 = b' ∧ o1 = o' := by simpa using e'
        rw [hc, List.getD_eq_getElem?_getD, hy]; rfl
      · obtain ⟨y, hy⟩ := getElem?_of_lt hj
        obtain ⟨_, b', o', e', hc⟩ := h2 j y hy
        obtain ⟨rfl, rfl⟩ : b2 = b' ∧ o2 = o' := by simpa using e'
        rw [hc, List.getD_eq_getElem?_getD, hy]; rfl
      · rintro e w' ⟨rfl, q, rfl⟩
        rw [List.take_length, List.take_length]
        refine ⟨?_, ?_⟩
        · rw [← hr, show (l == m) = decide (l = m) by rw [Bool.eq_iff_iff]; simp]
        · exact ⟨rfl, rfl, rfl, Nat.le_refl _, fun _ _ => rfl⟩
  · refine (Tryd.slices_Equal_int_lens a1 a2 l.length c1 m.length c2 w hlen).mono ?_
    rintro e w' ⟨rfl, rfl⟩
    exact ⟨by rw [← hr, decide_eq_false (fun e => hlen (by rw [e]))], Below.refl _ _⟩

set_option maxHeartbeats 4000000 in
theorem equalW_ct (v1 v2 : Value) (l m : List Wr) (r : Bool) (w : World) (h : WrsAt w v1 l) (h' : WrsAt w v2 m) (hlen : l.length = m.length) (hr : wrsEq l m l.length = r) :
    Calls Tryd.prog 109 #[v1, v2] w fun e w' => e = .returned (.bool r) ∧ Below w.heap.size w w' := by
  have HR : Hid (wrsEq l m l.length = r) := hr
  clear hr
  obtain ⟨a1, c1, rfl, _, hl, h1⟩ := h.open
  obtain ⟨a2, c2, rfl, _, hm, h2⟩ := h'.open
  have HI1 : Hid _ := h1
  have HI2 : Hid _ := h2
  clear h h' h1 h2
  have HL : Hid (l.length = m.length) := hlen
  rw [← hlen]
  clear hlen
  go_enter Tryd.func109, Tryd.ntmps109
  go_wp2_with fail
  go_loopw [5, 13] (fun _ i W => ∃ k : Nat, k ≤ l.length ∧ i = .int .i64 k ∧ Below w.heap.size w W ∧ Hid (wrsEq l m k = true)) (fun _ i _ => l.length - (intOf i).toNat)
  case atStart => exact ⟨0, Nat.zero_le _, rfl, Below.refl _ _, (by show _ = _; rfl)⟩
  case round =>
    obtain ⟨k, hk, rfl, hb, HK⟩ := hrel
    by_cases hkl : k < l.length
    · obtain ⟨x, hx⟩ := getElem?_of_lt hkl
      obtain ⟨y, hy⟩ := getElem?_of_lt (l := m) (i := k) (by rw [← HL.out]; exact hkl)
      obtain ⟨_, _, b1, o1, rfl, hc0, hc1⟩ := HI1.out k x hx
      obtain ⟨_, _, b2, o2, rfl, hd0, hd1⟩ := HI2.out k y hy
      have gc0 := fun z => gr_cell (w := wr) ((hb.cell (World.block_lt_of_cell? w _ hc0)).trans hc0) z
      have gd0 := fun z => gr_cell (w := wr) ((hb.cell (World.block_lt_of_cell? w _ hd0)).trans hd0) z
      have gc1 := fun z => gr_cell (w := wr) ((hb.cell (World.block_lt_of_cell? w _ hc1)).trans hc1) z
      have gd1 := fun z => gr_cell (w := wr) ((hb.cell (World.block_lt_of_cell? w _ hd1)).trans hd1) z
      have qn := neqWr x y
      have qg : ∀ (oa ob : Operand) (w : World), (eqGuard .neq 85 oa ob (.agg #[.string x.name, .int .i64 x.link]) (.agg #[.string y.name, .int .i64 y.link])).run Tryd.prog w = .ok () w := fun oa ob w => run_eqGuard_agg w _ _ _ _ _ _ (by kernel_rfl)
      have HS : Hid (wrB x y = true → wrsEq l m (k + 1) = true) := fun e => wrsEq_snoc HK.out hx hy e
      have HZ : Hid (wrB x y = false → r = false) := fun e => by rw [← HR.out]; exact wrsEq_no hkl hx hy e
      clear hc0 hd0 hc1 hd1 hx hy HK
      cases hw : wrB x y with
      | true =>
        have HS := Lib.hid (HS.out hw)
        rw [hw] at qn
        clear HZ
        go_wp2_with fail
        refine wp_region_gr (by kernel_rfl) (by kernel_rfl) ?_
        repeat (go_big_quiet_step (fail))
        refine wpQuiet_nil ?_
        intro w2 hb2
        have hb := bthen hb hb2
        clear gc0 gd0 gc1 gd1 hb2 qn qg
        go_wp2_with fail
        go_roundw
        case rel => exact ⟨k + 1, by omega, by go_num, hb, HS⟩
        case measure => simp [intOf]; omega
      | false =>
        have HZ := Lib.hid (HZ.out hw)
        rw [hw] at qn
        clear HS
        go_wp2_with fail
        refine wp_region_gr (by kernel_rfl) (by kernel_rfl) ?_
        repeat (go_big_quiet_step (fail))
        refine wpQuiet_nil ?_
        intro w2 hb2
        have hb := bthen hb hb2
        clear gc0 gd0 gc1 gd1 hb2 qn qg
        go_wp2_with fail
        go_ret
        exact ⟨by rw [HZ.out]; rfl, hb⟩
    · have HN : Hid (r = true) := by show _ = _; rw [← HR.out, show l.length = k by omega]; exact HK.out
      clear HK HR
      go_wp2_with fail
      go_ret
      exact ⟨by rw [HN.out]; rfl, hb⟩

set_option maxHeartbeats 2000000 in
theorem equalWn_ct (a1 a2 : Option Addr) (n m c1 c2 : Nat) (w : World) (hne : ¬ n = m) : Calls Tryd.prog 109 #[.slice a1 n c1, .slice a2 m c2] w fun e w' => e = .returned (.bool false) ∧ w' = w := by
  have hq : ((n : Int) == (m : Int)) = false := by simp only [beq_eq_false_iff_ne]; omega
  have hq2 : ((n : Int) != (m : Int)) = true := by simp only [bne_iff_ne, ne_eq]; omega
  go_enter Tryd.func109, Tryd.ntmps109
  go_wp2_with fail
  go_ret
  exact ⟨rfl, rfl⟩

set_option maxHeartbeats 2000000 in
theorem equalF_ct (a1 d1 : Option Addr) (n c1 e1 : Nat) (fv : Value) (r : Bool) (w : World) (hr : decide (n = 0) = r) (hn : n ≤ 1073741824) :
    Calls Tryd.prog 110 #[.slice a1 n c1, .slice d1 0 e1, fv] w fun e w' => e = .returned (.bool r) ∧ Below w.heap.size w w' := by
  by_cases h0 : n = 0
  · subst h0
    have HN : Hid (r = true) := by rw [← hr]; rfl
    clear hr
    go_enter Tryd.func110, Tryd.ntmps110
    go_wp2_with fail
    go_loopw [17] (fun i W => i = .int .i64 0 ∧ Below w.heap.size w W) (fun _ _ => 0)
    case atStart => exact ⟨rfl, Below.refl _ _⟩
    case round =>
      obtain ⟨rfl, hb⟩ := hrel
      go_wp2_with fail
      go_ret
      exact ⟨by rw [HN.out]; rfl, hb⟩
  · have HN : Hid (r = false) := by rw [← hr]; exact decide_eq_false h0
    have hq : ((n : Int) == 0) = false := by simp only [beq_eq_false_iff_ne]; omega
    clear hr
    go_enter Tryd.func110, Tryd.ntmps110
    go_wp2_with fail
    go_ret
    exact ⟨by rw [HN.out]; rfl, Below.refl _ _⟩

set_option maxRecDepth 100000 in
set_option maxHeartbeats 8000000 in
theorem sameBigraphs_ct (v v' : Value) (b : Big) (r : Bool) (w : World) (h : BigAt w v b) (h' : BigAt w v' (idBig b.roots.toNat b.outer)) (hro : 0 ≤ b.roots ∧ b.roots ≤ 4) (hed : 0 ≤ b.edges ∧ b.edges ≤ 8) (hr : identB b = r) :
    Calls Tryd.prog 58 #[v, v'] w fun e w' => e = .returned (.bool r) ∧ Below w.heap.size w w' := by
  have HR : Hid (identB b = r) := hr
  clear hr
  have l1 := h.lens
  obtain ⟨n, hn⟩ : ∃ n : Nat, b.roots = n := ⟨b.roots.toNat, by omega⟩
  rw [hn, Int.toNat_natCast] at h'
  have HI : Hid (identB b = (decide (b.edges = 0) && (decide (b.sites = sitesL n) && (decide (b.inner.length = b.outer.length) && (wrsEq b.inner (wires b.outer) b.inner.length && decide (b.nodes.length = 0)))))) := by show _ = _; unfold identB; rw [hn, Int.toNat_natCast]
  obtain ⟨a1, c1, a2, c2, a3, c3, a4, c4, rfl, _, hsit, hout, hin, _, _⟩ := h.parts
  obtain ⟨d1, e1, d2, e2, d3, e3, d4, e4, rfl, _, hsit', hout', hin', _, _⟩ := h'.parts
  have h := 0
  have h' := 0
  have ew : (idBig n b.outer).inner.length = b.outer.length := by simp [idBig, wires_length]
  have es : (idBig n b.outer).sites.length = n := by simp [idBig, sitesL_length]
  have eo : (idBig n b.outer).outer.length = b.outer.length := rfl
  have en : (idBig n b.outer).nodes.length = 0 := rfl
  rw [ew] at hin'
  rw [es] at hsit'
  rw [eo] at hout'
  rw [ew, es, eo, en]
  have hsit' : IntsAt w (.slice d2 n e2) (sitesL n) := hsit'
  have hout' : StrsAt w (.slice d3 b.outer.length e3) b.outer := hout'
  have hin' : WrsAt w (.slice d4 b.outer.length e4) (wires b.outer) := hin'
  have er : (idBig n b.outer).roots = (n : Int) := rfl
  have ee : (idBig n b.outer).edges = 0 := rfl
  rw [er, ee, hn]
  clear ew es eo en er ee
  have hA := bthen (balloc w (.cells #[.int .i64 n, .slice a1 b.nodes.length c1, .slice a2 b.sites.length c2, .int .i64 b.edges, .slice a3 b.outer.length c3, .slice a4 b.inner.length c4] 43)) (balloc (w.alloc (.cells #[.int .i64 n, .slice a1 b.nodes.length c1, .slice a2 b.sites.length c2, .int .i64 b.edges, .slice a3 b.outer.length c3, .slice a4 b.inner.length c4] 43)) (.cells #[.int .i64 n, .slice d1 0 e1, .slice d2 n e2, .int .i64 0, .slice d3 b.outer.length e3, .slice d4 b.outer.length e4] 43))
  clear hn
  have BA : Box ((w.alloc (.cells #[.int .i64 n, .slice a1 b.nodes.length c1, .slice a2 b.sites.length c2, .int .i64 b.edges, .slice a3 b.outer.length c3, .slice a4 b.inner.length c4] 43)).alloc (.cells #[.int .i64 n, .slice d1 0 e1, .slice d2 n e2, .int .i64 0, .slice d3 b.outer.length e3, .slice d4 b.outer.length e4] 43)) w.heap.size #[.int .i64 n, .slice a1 b.nodes.length c1, .slice a2 b.sites.length c2, .int .i64 b.edges, .slice a3 b.outer.length c3, .slice a4 b.inner.length c4] 43 := (Box.new _ _ _).alloc _
  have BB : Box ((w.alloc (.cells #[.int .i64 n, .slice a1 b.nodes.length c1, .slice a2 b.sites.length c2, .int .i64 b.edges, .slice a3 b.outer.length c3, .slice a4 b.inner.length c4] 43)).alloc (.cells #[.int .i64 n, .slice d1 0 e1, .slice d2 n e2, .int .i64 0, .slice d3 b.outer.length e3, .slice d4 b.outer.length e4] 43)) (w.heap.size + 1) #[.int .i64 n, .slice d1 0 e1, .slice d2 n e2, .int .i64 0, .slice d3 b.outer.length e3, .slice d4 b.outer.length e4] 43 := Box.new' _ _ _ (by simp)
  have hs1 := hsit.below hA
  have hs2 := hsit'.below hA
  have ho1 := hout.below hA
  have ho2 := hout'.below hA
  have hi1 := hin.below hA
  have hi2 := hin'.below hA
  clear hsit hout hin hsit' hout' hin'
  by_cases t0 : b.edges = 0
  case neg =>
    have HN : Hid (r = false) := by show _ = _; rw [← HR.out, HI.out]; simp [t0]
    have hq1 : (b.edges == 0) = false := by simpa using t0
    go_enter Tryd.func58, Tryd.ntmps58
    go_wp2_with fail
    go_ret
    exact ⟨by rw [HN.out]; rfl, hA⟩
  have hq1 : (b.edges == 0) = true := by simpa using t0
  have A0 := Lib.hid t0
  clear t0
  by_cases t3 : b.sites = sitesL n
  case neg =>
    have HN : Hid (r = false) := by show _ = _; rw [← HR.out, HI.out]; simp [t3]
    go_enter Tryd.func58, Tryd.ntmps58
    go_wp2_with (go_at_call 107; refine (equalInt_ct _ _ _ _ false (decide_eq_false t3) _ hs1 hs2).mono ?_; rintro e w2 ⟨rfl, hb2⟩)
    go_ret
    exact ⟨by rw [HN.out]; rfl, bthen hA hb2⟩
  have A1 := Lib.hid (decide_eq_true t3)
  have A3 := Lib.hid t3
  clear t3
  by_cases t2 : b.inner.length = b.outer.length
  case neg =>
    have HN : Hid (r = false) := by show _ = _; rw [← HR.out, HI.out]; simp [t2]
    have hq2 : ((b.inner.length : Int) == (b.outer.length : Int)) = false := by simp only [beq_eq_false_iff_ne]; omega
    go_enter Tryd.func58, Tryd.ntmps58
    go_wp2_with (first | (go_at_call 107; refine (equalInt_ct _ _ _ _ true A1.out _ hs1 hs2).mono ?_; rintro e w2 ⟨rfl, hb2⟩; have BA := BA.below hb2; have BB := BB.below hb2; have ho1 := ho1.below hb2; have ho2 := ho2.below hb2; have hb := bthen hA hb2; have qa := BA.cell; have qb := BB.cell) | (go_at_call 108; refine (equalStr_ct _ _ _ _ true _ ho1 ho2 (sameN_refl _)).mono ?_; rintro e w3 ⟨rfl, hb3⟩; have qa2 := (BA.below hb3).cell; have qb2 := (BB.below hb3).cell; have hb := bthen hb hb3) | (go_at_call 109; refine (equalWn_ct _ _ _ _ _ _ _ t2).mono ?_; rintro e w4 ⟨rfl, rfl⟩))
    go_ret
    exact ⟨by rw [HN.out]; rfl, hb⟩
  have A2 := Lib.hid t2
  clear t2
  cases t4 : wrsEq b.inner (wires b.outer) b.inner.length with
  | false =>
    have HN : Hid (r = false) := by show _ = _; rw [← HR.out, HI.out]; simp [t4]
    have AL : Hid (b.inner.length = (wires b.outer).length) := by show _ = _; rw [wires_length]; exact A2.out
    go_enter Tryd.func58, Tryd.ntmps58
    go_wp2_with (first | (go_at_call 107; refine (equalInt_ct _ _ _ _ true A1.out _ hs1 hs2).mono ?_; rintro e w2 ⟨rfl, hb2⟩; have BA := BA.below hb2; have BB := BB.below hb2; have ho1 := ho1.below hb2; have ho2 := ho2.below hb2; have hi1 := hi1.below hb2; have hi2 := hi2.below hb2; have hb := bthen hA hb2; have qa := BA.cell; have qb := BB.cell) | (go_at_call 108; refine (equalStr_ct _ _ _ _ true _ ho1 ho2 (sameN_refl _)).mono ?_; rintro e w3 ⟨rfl, hb3⟩; have qa2 := (BA.below hb3).cell; have qb2 := (BB.below hb3).cell; have hi1 := hi1.below hb3; have hi2 := hi2.below hb3; have hb := bthen hb hb3) | (go_at_call 109; refine (equalW_ct _ _ _ _ false _ hi1 hi2 AL.out t4).mono ?_; rintro e w4 ⟨rfl, hb4⟩; have hb := bthen hb hb4))
    go_ret
    exact ⟨by rw [HN.out]; rfl, hb⟩
  | true =>
    have HN : Hid (decide (b.nodes.length = 0) = r) := by show _ = _; rw [← HR.out, HI.out, decide_eq_true A0.out, decide_eq_true A3.out, decide_eq_true A2.out, t4]; simp
    have AL : Hid (b.inner.length = (wires b.outer).length) := by show _ = _; rw [wires_length]; exact A2.out
    go_enter Tryd.func58, Tryd.ntmps58
    go_wp2_with (first | (go_at_call 107; refine (equalInt_ct _ _ _ _ true A1.out _ hs1 hs2).mono ?_; rintro e w2 ⟨rfl, hb2⟩; have BA := BA.below hb2; have BB := BB.below hb2; have ho1 := ho1.below hb2; have ho2 := ho2.below hb2; have hi1 := hi1.below hb2; have hi2 := hi2.below hb2; have hb := bthen hA hb2; have qa := BA.cell; have qb := BB.cell) | (go_at_call 108; refine (equalStr_ct _ _ _ _ true _ ho1 ho2 (sameN_refl _)).mono ?_; rintro e w3 ⟨rfl, hb3⟩; have BA := BA.below hb3; have BB := BB.below hb3; have qa2 := BA.cell; have qb2 := BB.cell; have hi1 := hi1.below hb3; have hi2 := hi2.below hb3; have hb := bthen hb hb3) | (go_at_call 109; refine (equalW_ct _ _ _ _ true _ hi1 hi2 AL.out t4).mono ?_; rintro e w4 ⟨rfl, hb4⟩; have qa3 := (BA.below hb4).cell; have qb3 := (BB.below hb4).cell; have hb := bthen hb hb4) | (go_at_call 110; refine (equalF_ct _ _ _ _ _ _ r _ HN.out (by omega)).mono ?_; rintro e w5 ⟨rfl, hb5⟩; have hb := bthen hb hb5))
    go_ret
    exact ⟨by cases r <;> rfl, hb⟩

set_option maxRecDepth 100000 in
set_option maxHeartbeats 8000000 in
theorem specIsIdentity_ct (vs v : Value) (sig : List Ctl) (b : Big) (r : Bool) (w : World) (h : Ctx w vs v sig b) (hr : (goodB sig b && identB b) = r) :
    Calls Tryd.prog 16 #[vs, v] w fun e w' => e = .returned (.bool r) ∧ Below w.heap.size w w' := by
  have HR : Hid ((goodB sig b && identB b) = r) := hr
  clear hr
  obtain ⟨a1, c1, a2, c2, a3, c3, a4, c4, rfl⟩ := h.big.shape
  have hA := balloc w (.cells #[.int .i64 b.roots, .slice a1 b.nodes.length c1, .slice a2 b.sites.length c2, .int .i64 b.edges, .slice a3 b.outer.length c3, .slice a4 b.inner.length c4] 43)
  have hx := h.below hA
  have BA0 : Box (w.alloc (.cells #[.int .i64 b.roots, .slice a1 b.nodes.length c1, .slice a2 b.sites.length c2, .int .i64 b.edges, .slice a3 b.outer.length c3, .slice a4 b.inner.length c4] 43)) w.heap.size #[.int .i64 b.roots, .slice a1 b.nodes.length c1, .slice a2 b.sites.length c2, .int .i64 b.edges, .slice a3 b.outer.length c3, .slice a4 b.inner.length c4] 43 := Box.new _ _ _
  cases hg : goodB sig b with
  | false =>
    have HN : Hid (r = false) := by show _ = _; rw [← HR.out, hg]; rfl
    clear HR
    go_enter Tryd.func16, Tryd.ntmps16
    go_wp2_with fail
    obtain ⟨W0, hW0⟩ : ∃ W, W = w.alloc (.cells #[.int .i64 b.roots, .slice a1 b.nodes.length c1, .slice a2 b.sites.length c2, .int .i64 b.edges, .slice a3 b.outer.length c3, .slice a4 b.inner.length c4] 43) := ⟨_, rfl⟩
    rw [← hW0] at hA hx ⊢
    have BA : Box W0 w.heap.size #[.int .i64 b.roots, .slice a1 b.nodes.length c1, .slice a2 b.sites.length c2, .int .i64 b.edges, .slice a3 b.outer.length c3, .slice a4 b.inner.length c4] 43 := by rw [hW0]; exact Box.new _ _ _
    clear hW0
    have gA0 := fun y => gr_cell (w := W0) (BA.cell 0) y
    have gA1 := fun y => gr_cell (w := W0) (BA.cell 1) y
    have gA2 := fun y => gr_cell (w := W0) (BA.cell 2) y
    have gA3 := fun y => gr_cell (w := W0) (BA.cell 3) y
    have gA4 := fun y => gr_cell (w := W0) (BA.cell 4) y
    have gA5 := fun y => gr_cell (w := W0) (BA.cell 5) y
    refine wp_region_gr (by kernel_rfl) (by kernel_rfl) ?_
    repeat (go_big_quiet_step ((go_at_call 50; exact Calls.gr_of (l2Good_ct _ _ sig b false _ (hx.below (gr_below _ _)) hg))))
    refine wpQuiet_nil ?_
    intro w2 hb2
    go_wp2_with fail
    go_ret
    exact ⟨by rw [HN.out]; rfl, bthen hA hb2⟩
  | true =>
    have hG := good_of hg
    have hro := hG.roots
    have hed := hG.edges
    have ho16 : b.outer.length ≤ 16 := names_len hG.outer
    obtain ⟨n, hn⟩ : ∃ n : Nat, b.roots = n := ⟨b.roots.toNat, by omega⟩
    have hn4 : n ≤ 4 := by omega
    have HM := Lib.hid hn
    clear hn
    have hcall : ∀ (v : Value) (W : World), StrsAt W v b.outer → Calls Tryd.prog 52 #[.int .i64 b.roots, v] W fun e w' => ∃ u bs, e = .returned u ∧ BigOwn W.heap.size w' u (idBig n b.outer) bs ∧ bs.Nodup ∧ Below W.heap.size W w' := by
      intro v W hv; rw [HM.out]; exact l3Identity_ct n v b.outer W hn4 ho16 hv
    have HC := Lib.hid hcall
    clear hcall
    have HN : Hid (identB b = r) := by show _ = _; rw [← HR.out, hg, Bool.true_and]
    have h3 : StrsAt (w.alloc (.cells #[.int .i64 b.roots, .slice a1 b.nodes.length c1, .slice a2 b.sites.length c2, .int .i64 b.edges, .slice a3 b.outer.length c3, .slice a4 b.inner.length c4] 43)) (.slice a3 b.outer.length c3) b.outer := by
      obtain ⟨_, _, _, _, _, _, _, _, e0, _, _, h3, _⟩ := hx.big.parts
      simp only [Value.agg.injEq, Array.mk.injEq, List.cons.injEq, and_true, true_and, Value.slice.injEq] at e0
      obtain ⟨_, _, ⟨rfl, rfl⟩, _⟩ := e0
      exact h3
    clear HR hG
    go_enter Tryd.func16, Tryd.ntmps16
    go_wp2_with fail
    obtain ⟨W0, hW0⟩ : ∃ W, W = w.alloc (.cells #[.int .i64 b.roots, .slice a1 b.nodes.length c1, .slice a2 b.sites.length c2, .int .i64 b.edges, .slice a3 b.outer.length c3, .slice a4 b.inner.length c4] 43) := ⟨_, rfl⟩
    rw [← hW0] at hA hx BA0 h3 ⊢
    have BA := BA0
    clear hW0 BA0
    have b0 := bdrew (Below.refl W0.heap.size W0)
    have hx := hx.below b0
    have h3 := h3.below b0
    have BA := BA.drew
    have hb := bthen hA b0
    clear hA b0
    go_region_held3 (fun w' => w'.cell? ⟨w.heap.size, 0, none⟩ = some (.int .i64 b.roots) ∧ w'.cell? ⟨w.heap.size, 1, none⟩ = some (.slice a1 b.nodes.length c1) ∧ w'.cell? ⟨w.heap.size, 2, none⟩ = some (.slice a2 b.sites.length c2) ∧ w'.cell? ⟨w.heap.size, 3, none⟩ = some (.int .i64 b.edges) ∧ w'.cell? ⟨w.heap.size, 4, none⟩ = some (.slice a3 b.outer.length c3) ∧ w'.cell? ⟨w.heap.size, 5, none⟩ = some (.slice a4 b.inner.length c4)) (first | exact ⟨BA.cell 0, BA.cell 1, BA.cell 2, BA.cell 3, BA.cell 4, BA.cell 5⟩) (first | (go_at_call 50; refine (l2Good_ct _ _ sig b true _ hx hg).mono ?_; rintro e w2 ⟨rfl, bb⟩; have BA := BA.below bb; have hx := hx.below bb; have h3 := h3.below bb; have hb := bthen hb bb; clear bb) | (go_at_call 52; refine (HC.out _ _ h3).mono ?_; rintro e w3 ⟨u, bs, rfl, hu, _, bb⟩; have hu := hu.at; have BA := BA.below bb; have hx := hx.below bb; have hb := bthen hb bb; clear bb) | (go_at_call 51; refine (l2Same_ct _ _ b (identB b) _ hx.big (by rw [HM.out, Int.toNat_natCast]; exact hu) hro hed rfl).mono ?_; rintro e w4 ⟨rfl, bb⟩; have BA := BA.below bb; have hb := bthen hb bb; clear bb))
    go_wp2_with fail
    go_ret
    exact ⟨ret_bool HN.out, hb⟩

set_option maxRecDepth 100000 in
set_option maxHeartbeats 8000000 in
theorem implIsIdentity_ct (vs v : Value) (sig : List Ctl) (b : Big) (r : Bool) (w : World) (h : Ctx w vs v sig b) (hr : (goodB sig b && identB b) = r) :
    Calls Tryd.prog 19 #[vs, v] w fun e w' => e = .returned (.bool r) ∧ Below w.heap.size w w' := by
  have HR : Hid ((goodB sig b && identB b) = r) := hr
  clear hr
  obtain ⟨a1, c1, a2, c2, a3, c3, a4, c4, rfl⟩ := h.big.shape
  have hA := balloc w (.cells #[.int .i64 b.roots, .slice a1 b.nodes.length c1, .slice a2 b.sites.length c2, .int .i64 b.edges, .slice a3 b.outer.length c3, .slice a4 b.inner.length c4] 43)
  have hx := h.below hA
  have BA0 : Box (w.alloc (.cells #[.int .i64 b.roots, .slice a1 b.nodes.length c1, .slice a2 b.sites.length c2, .int .i64 b.edges, .slice a3 b.outer.length c3, .slice a4 b.inner.length c4] 43)) w.heap.size #[.int .i64 b.roots, .slice a1 b.nodes.length c1, .slice a2 b.sites.length c2, .int .i64 b.edges, .slice a3 b.outer.length c3, .slice a4 b.inner.length c4] 43 := Box.new _ _ _
  cases hg : goodB sig b with
  | false =>
    have HN : Hid (r = false) := by show _ = _; rw [← HR.out, hg]; rfl
    clear HR
    go_enter Tryd.func19, Tryd.ntmps19
    go_wp2_with fail
    obtain ⟨W0, hW0⟩ : ∃ W, W = w.alloc (.cells #[.int .i64 b.roots, .slice a1 b.nodes.length c1, .slice a2 b.sites.length c2, .int .i64 b.edges, .slice a3 b.outer.length c3, .slice a4 b.inner.length c4] 43) := ⟨_, rfl⟩
    rw [← hW0] at hA hx ⊢
    have BA : Box W0 w.heap.size #[.int .i64 b.roots, .slice a1 b.nodes.length c1, .slice a2 b.sites.length c2, .int .i64 b.edges, .slice a3 b.outer.length c3, .slice a4 b.inner.length c4] 43 := by rw [hW0]; exact Box.new _ _ _
    clear hW0
    have gA0 := fun y => gr_cell (w := W0) (BA.cell 0) y
    have gA1 := fun y => gr_cell (w := W0) (BA.cell 1) y
    have gA2 := fun y => gr_cell (w := W0) (BA.cell 2) y
    have gA3 := fun y => gr_cell (w := W0) (BA.cell 3) y
    have gA4 := fun y => gr_cell (w := W0) (BA.cell 4) y
    have gA5 := fun y => gr_cell (w := W0) (BA.cell 5) y
    refine wp_region_gr (by kernel_rfl) (by kernel_rfl) ?_
    repeat (go_big_quiet_step ((go_at_call 57; exact Calls.gr_of (implIsBigraph_ct _ _ sig b false _ (hx.below (gr_below _ _)) hg))))
    refine wpQuiet_nil ?_
    intro w2 hb2
    go_wp2_with fail
    go_ret
    exact ⟨by rw [HN.out]; rfl, bthen hA hb2⟩
  | true =>
    have hG := good_of hg
    have hro := hG.roots
    have hed := hG.edges
    have ho16 : b.outer.length ≤ 16 := names_len hG.outer
    obtain ⟨n, hn⟩ : ∃ n : Nat, b.roots = n := ⟨b.roots.toNat, by omega⟩
    have hn4 : n ≤ 4 := by omega
    have HM := Lib.hid hn
    clear hn
    have hcall : ∀ (v : Value) (W : World), StrsAt W v b.outer → Calls Tryd.prog 59 #[.int .i64 b.roots, v] W fun e w' => ∃ u bs, e = .returned u ∧ BigOwn W.heap.size w' u (idBig n b.outer) bs ∧ bs.Nodup ∧ Below W.heap.size W w' := by
      intro v W hv; rw [HM.out]; exact identity_ct n v b.outer W hn4 ho16 hv
    have HC := Lib.hid hcall
    clear hcall
    have HN : Hid (identB b = r) := by show _ = _; rw [← HR.out, hg, Bool.true_and]
    have h3 : StrsAt (w.alloc (.cells #[.int .i64 b.roots, .slice a1 b.nodes.length c1, .slice a2 b.sites.length c2, .int .i64 b.edges, .slice a3 b.outer.length c3, .slice a4 b.inner.length c4] 43)) (.slice a3 b.outer.length c3) b.outer := by
      obtain ⟨_, _, _, _, _, _, _, _, e0, _, _, h3, _⟩ := hx.big.parts
      simp only [Value.agg.injEq, Array.mk.injEq, List.cons.injEq, and_true, true_and, Value.slice.injEq] at e0
      obtain ⟨_, _, ⟨rfl, rfl⟩, _⟩ := e0
      exact h3
    clear HR hG
    go_enter Tryd.func19, Tryd.ntmps19
    go_wp2_with fail
    obtain ⟨W0, hW0⟩ : ∃ W, W = w.alloc (.cells #[.int .i64 b.roots, .slice a1 b.nodes.length c1, .slice a2 b.sites.length c2, .int .i64 b.edges, .slice a3 b.outer.length c3, .slice a4 b.inner.length c4] 43) := ⟨_, rfl⟩
    rw [← hW0] at hA hx BA0 h3 ⊢
    have BA := BA0
    clear hW0 BA0
    have b0 := bdrew (Below.refl W0.heap.size W0)
    have hx := hx.below b0
    have h3 := h3.below b0
    have BA := BA.drew
    have hb := bthen hA b0
    clear hA b0
    go_region_held3 (fun w' => w'.cell? ⟨w.heap.size, 0, none⟩ = some (.int .i64 b.roots) ∧ w'.cell? ⟨w.heap.size, 1, none⟩ = some (.slice a1 b.nodes.length c1) ∧ w'.cell? ⟨w.heap.size, 2, none⟩ = some (.slice a2 b.sites.length c2) ∧ w'.cell? ⟨w.heap.size, 3, none⟩ = some (.int .i64 b.edges) ∧ w'.cell? ⟨w.heap.size, 4, none⟩ = some (.slice a3 b.outer.length c3) ∧ w'.cell? ⟨w.heap.size, 5, none⟩ = some (.slice a4 b.inner.length c4)) (first | exact ⟨BA.cell 0, BA.cell 1, BA.cell 2, BA.cell 3, BA.cell 4, BA.cell 5⟩) (first | (go_at_call 57; refine (implIsBigraph_ct _ _ sig b true _ hx hg).mono ?_; rintro e w2 ⟨rfl, bb⟩; have BA := BA.below bb; have hx := hx.below bb; have h3 := h3.below bb; have hb := bthen hb bb; clear bb) | (go_at_call 59; refine (HC.out _ _ h3).mono ?_; rintro e w3 ⟨u, bs, rfl, hu, _, bb⟩; have hu := hu.at; have BA := BA.below bb; have hx := hx.below bb; have hb := bthen hb bb; clear bb) | (go_at_call 58; refine (sameBigraphs_ct _ _ b (identB b) _ hx.big (by rw [HM.out, Int.toNat_natCast]; exact hu) hro hed rfl).mono ?_; rintro e w4 ⟨rfl, bb⟩; have BA := BA.below bb; have hb := bthen hb bb; clear bb))
    go_wp2_with fail
    go_ret
    exact ⟨ret_bool HN.out, hb⟩
end Go.Proofs.YtjkebiodabheiaaDoor
