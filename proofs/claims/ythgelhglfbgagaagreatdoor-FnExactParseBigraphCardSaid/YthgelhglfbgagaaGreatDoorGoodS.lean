/- Valid bigraphs: the reference's test. -/
import Derived.Test.YthgelhglfbgagaaGreatDoorG4
namespace Go.Proofs.YthgelhglfbgagaaGreatDoor
open Go Go.RowKit Go.BigFrame

theorem Box.gr {w : World} {g : Nat} {cs : Array Value} {t : TypeId} (h : Box w g cs t) (x : Gx) : Box (gr w x) g cs t := h.below (gr_below w x)
/-- What all tests of one bigraph ask. -/
structure Ctx (w : World) (vs v : Value) (sig : List Ctl) (b : Big) : Prop where
  sig : CtlsAt w vs sig
  big : BigAt w v b
theorem Ctx.below {w w' : World} {vs v : Value} {sig : List Ctl} {b : Big} (h : Ctx w vs v sig b) (hb : Below w.heap.size w w') : Ctx w' vs v sig b := ⟨h.sig.below hb, h.big.below hb⟩
theorem head_edges {sig : List Ctl} {b : Big} (h : headB sig b = true) : 0 ≤ b.edges ∧ b.edges ≤ 8 := (head_of h).2.2.2.2.1
theorem head_roots {sig : List Ctl} {b : Big} (h : headB sig b = true) : 0 ≤ b.roots ∧ b.roots ≤ 4 := (head_of h).2.1
theorem head_sig {sig : List Ctl} {b : Big} (h : headB sig b = true) : sigB sig = true := (head_of h).1
theorem BigAt.nodes_len {w : World} {v : Value} {b : Big} (h : BigAt w v b) : b.nodes.length ≤ 1073741824 := by
  obtain ⟨vn, vq, vo, vi, rfl, h1, _⟩ := h
  obtain ⟨_, _, _, _, h, _⟩ := h1.open
  exact h

set_option maxRecDepth 100000 in
set_option maxHeartbeats 8000000 in
theorem l2Node_ct (vs v : Value) (sig : List Ctl) (b : Big) (k : Nat) (n : Nd) (r : Bool) (w : World) (h : Ctx w vs v sig b) (hh : headB sig b = true) (hn : b.nodes[k]? = some n) (hok : okN sig b k) (hr : nodeB sig b k n = r) :
    Calls Tryz.prog 77 #[vs, v, .int .i64 k] w fun e w' => e = .returned (.bool r) ∧ Below w.heap.size w w' := by
  have HR : Hid (nodeB sig b k n = r) := hr
  have hro := head_roots hh
  have hed := head_edges hh
  have hkn := (List.getElem?_eq_some_iff.1 hn).1
  have hnl := h.big.nodes_len
  have hsl := sig_len (head_sig hh)
  clear hr
  obtain ⟨a1, c1, a2, c2, a3, c3, a4, c4, rfl, hnds, _, _, _, _, _⟩ := h.big.parts
  obtain ⟨a1', c1', e, _, _, m3⟩ := hnds.open
  obtain ⟨rfl, rfl⟩ : a1 = a1' ∧ c1 = c1' := by simpa using e
  clear e
  obtain ⟨hn1, hn2, bn, on, ul, rfl, hul, e0, e1, e2⟩ := m3 k n hn
  clear m3 hnds
  obtain ⟨al, cl, rfl, hl1, hl2, hl3⟩ := hul.open
  have hctl := hn1
  have hpar := hn2
  unfold I64 at hctl hpar
  obtain ⟨as_, cs_, rfl, s1, s2, s3⟩ := h.sig.open
  have HS3 : Hid _ := s3
  have HL3 : Hid _ := hl3
  clear s3 hl3
  have hB := balloc w (.cells #[.int .i64 b.roots, .slice (some ⟨bn, on, none⟩) b.nodes.length c1, .slice a2 b.sites.length c2, .int .i64 b.edges, .slice a3 b.outer.length c3, .slice a4 b.inner.length c4] 29)
  have e0 := (hB.cell (World.block_lt_of_cell? w _ e0)).trans e0
  have e1 := (hB.cell (World.block_lt_of_cell? w _ e1)).trans e1
  have e2 := (hB.cell (World.block_lt_of_cell? w _ e2)).trans e2
  clear hB
  go_enter Tryz.func77, Tryz.ntmps77
  go_wp2_with fail
  obtain ⟨W1, hW1⟩ : ∃ W, W = (w.alloc (.cells #[.int .i64 b.roots, .slice (some ⟨bn, on, none⟩) b.nodes.length c1, .slice a2 b.sites.length c2, .int .i64 b.edges, .slice a3 b.outer.length c3, .slice a4 b.inner.length c4] 29)).alloc (.cells #[.int .i64 n.ctl, .int .i64 n.par, .slice al n.links.length cl] 57) := ⟨_, rfl⟩
  rw [← hW1]
  have BA : Box W1 w.heap.size #[.int .i64 b.roots, .slice (some ⟨bn, on, none⟩) b.nodes.length c1, .slice a2 b.sites.length c2, .int .i64 b.edges, .slice a3 b.outer.length c3, .slice a4 b.inner.length c4] 29 := by rw [hW1]; exact (Box.new _ _ _).alloc _
  have BN : Box W1 (w.heap.size + 1) #[.int .i64 n.ctl, .int .i64 n.par, .slice al n.links.length cl] 57 := by rw [hW1]; exact Box.new' _ _ _ (by simp)
  have hb : Below w.heap.size w W1 := by rw [hW1]; exact bthen (balloc _ _) (balloc _ _)
  have hx := h.below hb
  clear hW1 e0 e1 e2
  have gA := fun y => (BA.gr y).cell
  have gN := fun y => (BN.gr y).cell
  by_cases hc : 0 ≤ n.ctl ∧ n.ctl ≤ (sig.length : Int) - 1
  case neg =>
    have HN : Hid (r = false) := by rw [← HR.out]; unfold nodeB; rw [decide_eq_false hc]; rfl
    refine wp_region_gr (by kernel_rfl) (by kernel_rfl) ?_
    repeat (go_big_quiet_step ((go_at_call 21; exact Calls.gr_same (l1In_ct _ _ _ false (by simp only [Bool.false_eq_true, false_iff]; exact hc) _))))
    refine wpQuiet_nil ?_
    intro w2 hb2
    go_wp2_with fail
    go_ret
    exact ⟨by rw [HN.out]; rfl, bthen hb hb2⟩
  obtain ⟨j, hj⟩ : ∃ j : Nat, n.ctl = j := ⟨n.ctl.toNat, by omega⟩
  obtain ⟨ct, hct⟩ := getElem?_of_lt (l := sig) (i := j) (by omega)
  obtain ⟨_, hpo, _, b2, o2, rfl, f0, f1, f2⟩ := HS3.out j ct hct
  unfold I64 at hpo
  have f1 := (hb.cell (World.block_lt_of_cell? w _ f1)).trans f1
  have gS := fun y => gr_cell (w := W1) f1 y
  rw [hj] at BN gN hc
  have HJ : Hid (n.ctl = j) := hj
  have HC : Hid (sig[j]? = some ct) := hct
  have hjs : (j : Int) < (sig.length : Int) := by omega
  have hk1 : (k : Int) < (b.nodes.length : Int) := by omega
  clear f0 f1 f2 hj hct hctl HS3
  cases hun : underB sig b k n.par with
  | false =>
    have HN : Hid (r = false) := by show _ = _; rw [← HR.out]; unfold nodeB; rw [hun]; simp
    refine wp_region_gr (by kernel_rfl) (by kernel_rfl) ?_
    repeat (go_big_quiet_step (first | (go_at_call 21; exact Calls.gr_same (l1In_ct _ _ _ true (by simpa using hc) _)) | (go_at_call 78; exact Calls.gr_of (l2Under_ct _ _ sig b n.par k false _ (hx.below (gr_below _ _)).sig (hx.below (gr_below _ _)).big hn2 hro (by omega) hok hun))))
    refine wpQuiet_nil ?_
    intro w2 hb2
    go_wp2_with fail
    go_ret
    exact ⟨by rw [HN.out]; rfl, bthen hb hb2⟩
  | true =>
    by_cases hpl : (n.links.length : Int) = ct.ports
    case neg =>
      have HN : Hid (r = false) := by
        show _ = _; rw [← HR.out]; unfold nodeB portsB; rw [HJ.out, Int.toNat_natCast, HC.out]; simp only [decide_eq_false hpl, Bool.false_and, Bool.and_false]
      have hpl' : ((n.links.length : Int) != ct.ports) = true := by simpa using hpl
      have hpl2 : ((n.links.length : Int) == ct.ports) = false := by simpa using hpl
      refine wp_region_gr (by kernel_rfl) (by kernel_rfl) ?_
      repeat (go_big_quiet_step (first | (go_at_call 21; exact Calls.gr_same (l1In_ct _ _ _ true (by simpa using hc) _)) | (go_at_call 78; exact Calls.gr_of (l2Under_ct _ _ sig b n.par k true _ (hx.below (gr_below _ _)).sig (hx.below (gr_below _ _)).big hn2 hro (by omega) hok hun))))
      refine wpQuiet_nil ?_
      intro w2 hb2
      go_wp2_with fail
      go_ret
      exact ⟨by rw [HN.out]; rfl, bthen hb hb2⟩
    have HN : Hid (n.links.all (linkB b) = r) := by
      show _ = _; rw [← HR.out]; unfold nodeB portsB; rw [HJ.out, Int.toNat_natCast, HC.out]; simp only [decide_eq_true hpl, decide_eq_true hc, hun, Bool.true_and]
    rw [← hpl] at gS hpo
    have HPL : Hid ((n.links.length : Int) = ct.ports) := hpl
    clear hpl
    refine wp_region_gr (by kernel_rfl) (by kernel_rfl) ?_
    repeat (go_big_quiet_step (first | (go_at_call 21; exact Calls.gr_same (l1In_ct _ _ _ true (by simpa using hc) _)) | (go_at_call 78; exact Calls.gr_of (l2Under_ct _ _ sig b n.par k true _ (hx.below (gr_below _ _)).sig (hx.below (gr_below _ _)).big hn2 hro (by omega) hok hun))))
    refine wpQuiet_nil ?_
    intro w2 hb2
    have BA := BA.below hb2
    have BN := BN.below hb2
    have hx := hx.below hb2
    have hb := bthen hb hb2
    clear gA gN gS hb2
    go_wp2_with fail
    go_loopw [8] (fun i W => ∃ m : Nat, m ≤ n.links.length ∧ i = .int .i64 m ∧ Below w2.heap.size w2 W ∧ Hid ((n.links.take m).all (linkB b) = true)) (fun i _ => n.links.length - (intOf i).toNat)
    case atStart => exact ⟨0, Nat.zero_le _, rfl, Below.refl _ _, (by show _ = _; simp)⟩
    case round =>
      obtain ⟨m, hm, rfl, hb2, HA⟩ := hrel
      have BA := BA.below hb2
      have BN := BN.below hb2
      have hx := hx.below hb2
      have hb := bthen hb hb2
      have qA := BA.cell
      have qN := BN.cell
      by_cases hlt : m < n.links.length
      · obtain ⟨x, hxm⟩ := getElem?_of_lt hlt
        obtain ⟨hx6, b3, o3, rfl, e0⟩ := HL3.out m x hxm
        have e0 := (hb.cell (World.block_lt_of_cell? w _ e0)).trans e0
        have HX : Hid (n.links[m]? = some x) := hxm
        clear hxm
        cases hlk : linkB b x with
        | false =>
          have HN : Hid (r = false) := by rw [← HN.out]; exact all_not HX.out hlk
          go_wp2_with fail
          refine wp_region_gr (by kernel_rfl) (by kernel_rfl) ?_
          have gA := fun y => (BA.gr y).cell
          have gN := fun y => (BN.gr y).cell
          have gE := fun y => gr_cell (w := wr) e0 y
          clear qA qN e0
          repeat (go_big_quiet_step ((go_at_call 79; exact Calls.gr_of (l2Link_ct _ b x false _ (hx.below (gr_below _ _)).big hed hlk))))
          refine wpQuiet_nil ?_
          intro w4 hb4
          go_wp2_with fail
          go_ret
          exact ⟨by rw [HN.out]; rfl, bthen hb hb4⟩
        | true =>
          have HT : Hid ((n.links.take (m + 1)).all (linkB b) = true) := all_take_snoc HA.out HX.out hlk
          go_wp2_with fail
          refine wp_region_gr (by kernel_rfl) (by kernel_rfl) ?_
          have gA := fun y => (BA.gr y).cell
          have gN := fun y => (BN.gr y).cell
          have gE := fun y => gr_cell (w := wr) e0 y
          clear qA qN e0
          repeat (go_big_quiet_step ((go_at_call 79; exact Calls.gr_of (l2Link_ct _ b x true _ (hx.below (gr_below _ _)).big hed hlk))))
          refine wpQuiet_nil ?_
          intro w4 hb4
          go_wp2_with fail
          go_roundw
          case rel => exact ⟨m + 1, by omega, by go_num, bthen hb2 hb4, HT⟩
          case measure => simp [intOf]; omega
      · have HN : Hid (r = true) := by rw [← HN.out]; exact all_full (by omega) HA.out
        go_wp2_with fail
        go_ret
        exact ⟨by rw [HN.out]; rfl, hb⟩

theorem head_false {sig : List Ctl} {b : Big} (h : headB sig b = false) : goodB sig b = false := by unfold goodB; rw [h]; rfl
set_option maxRecDepth 100000 in
set_option maxHeartbeats 8000000 in
theorem l2Good_ct (vs v : Value) (sig : List Ctl) (b : Big) (r : Bool) (w : World) (h : Ctx w vs v sig b) (hr : goodB sig b = r) :
    Calls Tryz.prog 25 #[vs, v] w fun e w' => e = .returned (.bool r) ∧ Below w.heap.size w w' := by
  have HR : Hid (goodB sig b = r) := hr
  have hnl := h.big.nodes_len
  clear hr
  obtain ⟨a1, c1, a2, c2, a3, c3, a4, c4, rfl, hnds, hsit, hout, hinn, hI1, hI2⟩ := h.big.parts
  unfold I64 at hI1 hI2
  have hsl : b.sites.length ≤ 1073741824 := by obtain ⟨_, _, _, _, h, _⟩ := hsit.open; exact h
  have hil : b.inner.length ≤ 1073741824 := by obtain ⟨_, _, _, _, h, _⟩ := hinn.open; exact h
  have hbA := balloc w (.cells #[.int .i64 b.roots, .slice a1 b.nodes.length c1, .slice a2 b.sites.length c2, .int .i64 b.edges, .slice a3 b.outer.length c3, .slice a4 b.inner.length c4] 29)
  go_enter Tryz.func25, Tryz.ntmps25
  go_wp2_with fail
  obtain ⟨W1, hW1⟩ : ∃ W, W = w.alloc (.cells #[.int .i64 b.roots, .slice a1 b.nodes.length c1, .slice a2 b.sites.length c2, .int .i64 b.edges, .slice a3 b.outer.length c3, .slice a4 b.inner.length c4] 29) := ⟨_, rfl⟩
  rw [← hW1] at hbA ⊢
  have BA : Box W1 w.heap.size #[.int .i64 b.roots, .slice a1 b.nodes.length c1, .slice a2 b.sites.length c2, .int .i64 b.edges, .slice a3 b.outer.length c3, .slice a4 b.inner.length c4] 29 := by rw [hW1]; exact Box.new _ _ _
  have hb := hbA
  have hx := h.below hb
  clear hW1 hbA
  cases hsg : sigB sig with
  | false =>
    have HN : Hid (r = false) := by rw [← HR.out]; exact head_false (by unfold headB; rw [hsg]; rfl)
    refine (l2Sig_ct _ sig false _ hx.sig hsg).mono ?_
    rintro e w2 ⟨rfl, hb2⟩
    go_wp2_with fail
    go_ret
    exact ⟨by rw [HN.out]; rfl, bthen hb hb2⟩
  | true =>
  refine (l2Sig_ct _ sig true _ hx.sig hsg).mono ?_
  rintro e w2 ⟨rfl, hb2⟩
  have BA := BA.below hb2
  have hx := hx.below hb2
  have hb := bthen hb hb2
  clear hb2
  have qA := BA.cell
  by_cases h1 : 0 ≤ b.roots ∧ b.roots ≤ 4
  case neg =>
    have HN : Hid (r = false) := by rw [← HR.out]; exact head_false (by unfold headB; rw [decide_eq_false h1]; simp)
    go_wp2_with fail
    refine (l1In_ct _ _ _ false (by simp only [Bool.false_eq_true, false_iff]; exact h1) _).mono ?_
    rintro e w3 ⟨rfl, rfl⟩
    go_wp2_with fail
    go_ret
    exact ⟨by rw [HN.out]; rfl, hb⟩
  go_wp2_with fail
  refine (l1In_ct _ _ _ true (by simpa using h1) _).mono ?_
  rintro e w3 ⟨rfl, rfl⟩
  by_cases h2 : b.nodes.length ≤ 8
  case neg =>
    have HN : Hid (r = false) := by rw [← HR.out]; exact head_false (by unfold headB; rw [decide_eq_false h2]; simp)
    go_wp2_with fail
    go_ret
    exact ⟨by rw [HN.out]; rfl, hb⟩
  by_cases h3 : b.sites.length ≤ 4
  case neg =>
    have HN : Hid (r = false) := by rw [← HR.out]; exact head_false (by unfold headB; rw [decide_eq_false h3]; simp)
    go_wp2_with fail
    go_ret
    exact ⟨by rw [HN.out]; rfl, hb⟩
  by_cases h4 : 0 ≤ b.edges ∧ b.edges ≤ 8
  case neg =>
    have HN : Hid (r = false) := by rw [← HR.out]; exact head_false (by unfold headB; rw [decide_eq_false h4]; simp)
    go_wp2_with fail
    refine (l1In_ct _ _ _ false (by simp only [Bool.false_eq_true, false_iff]; exact h4) _).mono ?_
    rintro e w3 ⟨rfl, rfl⟩
    go_wp2_with fail
    go_ret
    exact ⟨by rw [HN.out]; rfl, hb⟩
  go_wp2_with fail
  refine (l1In_ct _ _ _ true (by simpa using h4) _).mono ?_
  rintro e w4 ⟨rfl, rfl⟩
  go_wp2_with fail
  cases h5 : namesB b.outer with
  | false =>
    have HN : Hid (r = false) := by rw [← HR.out]; exact head_false (by unfold headB; rw [h5]; simp)
    refine (l2Names_ct _ b.outer false _ (hout.below hb) h5).mono ?_
    rintro e w5 ⟨rfl, hb2⟩
    go_wp2_with fail
    go_ret
    exact ⟨by rw [HN.out]; rfl, bthen hb hb2⟩
  | true =>
  refine (l2Names_ct _ b.outer true _ (hout.below hb) h5).mono ?_
  rintro e w5 ⟨rfl, hb2⟩
  have BA := BA.below hb2
  have hx := hx.below hb2
  have hb := bthen hb hb2
  clear hb2
  have qA := BA.cell
  by_cases h6 : b.inner.length ≤ 16
  case neg =>
    have HN : Hid (r = false) := by
      rw [← HR.out]; refine head_false ?_
      cases hh : headB sig b with
      | false => rfl
      | true => have := names_len (head_of hh).2.2.2.2.2.2; simp at this; omega
    go_wp2_with fail
    go_ret
    exact ⟨by rw [HN.out]; rfl, hb⟩
  go_wp2_with fail
  refine (l2Inner_ct _ b _ hx.big (by omega)).mono ?_
  rintro e w6 ⟨u, rfl, hu, hb2⟩
  have hu := hu.at
  have BA := BA.below hb2
  have hx := hx.below hb2
  have hb := bthen hb hb2
  clear hb2 qA
  go_wp2_with fail
  cases h7 : namesB (innerN b) with
  | false =>
    have HN : Hid (r = false) := by
      rw [← HR.out]; refine head_false ?_
      unfold headB; unfold innerN at h7; rw [h7]; simp
    refine (l2Names_ct _ (innerN b) false _ hu h7).mono ?_
    rintro e w7 ⟨rfl, hb2⟩
    go_wp2_with fail
    go_ret
    exact ⟨by rw [HN.out]; rfl, bthen hb hb2⟩
  | true =>
  have hh : headB sig b = true := by
    unfold headB; unfold innerN at h7; rw [hsg, decide_eq_true h1, decide_eq_true h2, decide_eq_true h3, decide_eq_true h4, h5, h7]; rfl
  have HH : Hid (headB sig b = true) := hh
  refine (l2Names_ct _ (innerN b) true _ hu h7).mono ?_
  rintro e w7 ⟨rfl, hb2⟩
  have BA := BA.below hb2
  have hx := hx.below hb2
  have hb := bthen hb hb2
  clear hb2 hu h7 h5 hsg hh
  have HN : Hid (((List.range b.nodes.length).all (nodeStep sig b) && (b.sites.all (underB sig b b.nodes.length) && b.inner.all (fun x => linkB b x.link))) = r) := by
    show _ = _; rw [← HR.out]; unfold goodB; rw [HH.out, Bool.true_and]
  clear HR
  obtain ⟨_, _, _, _, _, s3⟩ := hsit.open
  obtain ⟨_, _, _, _, _, i3⟩ := hinn.open
  clear hnds hsit hout hinn
  go_wp2_with fail
  go_loopw [5] (fun i W => ∃ k : Nat, k ≤ b.nodes.length ∧ i = .int .i64 k ∧ Below w7.heap.size w7 W ∧ Hid ((List.range k).all (nodeStep sig b) = true)) (fun i _ => b.nodes.length - (intOf i).toNat)
  case atStart => exact ⟨0, Nat.zero_le _, rfl, Below.refl _ _, rfl⟩
  case round =>
    obtain ⟨k, hk, rfl, hb7, HA⟩ := hrel
    have BA := BA.below hb7
    have hx := hx.below hb7
    have hb := bthen hb hb7
    have qA := BA.cell
    by_cases hlt : k < b.nodes.length
    · obtain ⟨n, hn⟩ := getElem?_of_lt hlt
      have HX : Hid (b.nodes[k]? = some n) := hn
      clear hn s3 i3
      cases hnb : nodeB sig b k n with
      | false =>
        have HF : Hid (r = false) := by rw [← HN.out, all_range_not hlt (by rw [nodeStep_eq HX.out, hnb])]; rfl
        go_wp2_with fail
        refine (l2Node_ct _ _ sig b k n false _ hx HH.out HX.out (okN_of (by omega) HA.out) hnb).mono ?_
        rintro e w8 ⟨rfl, hb2⟩
        go_wp2_with fail
        go_ret
        exact ⟨by rw [HF.out]; rfl, bthen hb hb2⟩
      | true =>
        have HT : Hid ((List.range (k + 1)).all (nodeStep sig b) = true) := all_range_snoc HA.out (by rw [nodeStep_eq HX.out, hnb])
        go_wp2_with fail
        refine (l2Node_ct _ _ sig b k n true _ hx HH.out HX.out (okN_of (by omega) HA.out) hnb).mono ?_
        rintro e w8 ⟨rfl, hb2⟩
        clear hnb
        go_wp2_with fail
        go_roundw
        case rel => exact ⟨k + 1, by omega, by go_num, bthen hb7 hb2, HT⟩
        case measure => simp [intOf]; omega
    · have e : k = b.nodes.length := by omega
      subst e
      have HOK : Hid (okN sig b b.nodes.length) := okN_of (Nat.le_refl _) HA.out
      have HN : Hid ((b.sites.all (underB sig b b.nodes.length) && b.inner.all (fun x => linkB b x.link)) = r) := by show _ = _; rw [← HN.out, HA.out, Bool.true_and]
      have S3 : Hid _ := s3
      have I3 : Hid _ := i3
      clear s3 i3 hb7 hlt
      obtain ⟨wa, rfl⟩ : ∃ W, W = wr := ⟨_, rfl⟩
      go_wp2_with fail
      go_loopw [6] (fun i W => ∃ k : Nat, k ≤ b.sites.length ∧ i = .int .i64 k ∧ Below wa.heap.size wa W ∧ Hid ((b.sites.take k).all (underB sig b b.nodes.length) = true)) (fun i _ => b.sites.length - (intOf i).toNat)
      case atStart => exact ⟨0, Nat.zero_le _, rfl, Below.refl _ _, (by show _ = _; simp)⟩
      case round =>
        obtain ⟨k, hk, rfl, hb7, HA⟩ := hrel
        have BA := BA.below hb7
        have hx := hx.below hb7
        have hb := bthen hb hb7
        have qA := BA.cell
        by_cases hlt : k < b.sites.length
        · obtain ⟨p, hp⟩ := getElem?_of_lt hlt
          obtain ⟨hp6, b3, o3, rfl, e0⟩ := S3.out k p hp
          have e0 := (hb.cell (World.block_lt_of_cell? w _ e0)).trans e0
          have HX : Hid (b.sites[k]? = some p) := hp
          clear hp
          cases hnb : underB sig b b.nodes.length p with
          | false =>
            have HF : Hid (r = false) := by rw [← HN.out, all_not HX.out hnb]; rfl
            go_wp2_with fail
            refine wp_region_gr (by kernel_rfl) (by kernel_rfl) ?_
            have gA := fun y => (BA.gr y).cell
            have gE := fun y => gr_cell (w := wr) e0 y
            clear qA e0
            repeat (go_big_quiet_step ((go_at_call 78; exact Calls.gr_of (l2Under_ct _ _ sig b p b.nodes.length false _ (hx.below (gr_below _ _)).sig (hx.below (gr_below _ _)).big hp6 h1 hnl HOK.out hnb))))
            refine wpQuiet_nil ?_
            intro w8 hb2
            go_wp2_with fail
            go_ret
            exact ⟨by rw [HF.out]; rfl, bthen hb hb2⟩
          | true =>
            have HT : Hid ((b.sites.take (k + 1)).all (underB sig b b.nodes.length) = true) := all_take_snoc HA.out HX.out hnb
            go_wp2_with fail
            refine wp_region_gr (by kernel_rfl) (by kernel_rfl) ?_
            have gA := fun y => (BA.gr y).cell
            have gE := fun y => gr_cell (w := wr) e0 y
            clear qA e0
            repeat (go_big_quiet_step ((go_at_call 78; exact Calls.gr_of (l2Under_ct _ _ sig b p b.nodes.length true _ (hx.below (gr_below _ _)).sig (hx.below (gr_below _ _)).big hp6 h1 hnl HOK.out hnb))))
            refine wpQuiet_nil ?_
            intro w8 hb2
            clear hnb
            go_wp2_with fail
            go_roundw
            case rel => exact ⟨k + 1, by omega, by go_num, bthen hb7 hb2, HT⟩
            case measure => simp [intOf]; omega
        · have HN : Hid (b.inner.all (fun x => linkB b x.link) = r) := by show _ = _; rw [← HN.out, all_full (by omega) HA.out, Bool.true_and]
          clear hb7
          obtain ⟨wc, rfl⟩ : ∃ W, W = wr := ⟨_, rfl⟩
          go_wp2_with fail
          go_loopw [7] (fun i W => ∃ k : Nat, k ≤ b.inner.length ∧ i = .int .i64 k ∧ Below wc.heap.size wc W ∧ Hid ((b.inner.take k).all (fun x => linkB b x.link) = true)) (fun i _ => b.inner.length - (intOf i).toNat)
          case atStart => exact ⟨0, Nat.zero_le _, rfl, Below.refl _ _, (by show _ = _; simp)⟩
          case round =>
            obtain ⟨k, hk, rfl, hb7, HA⟩ := hrel
            have BA := BA.below hb7
            have hx := hx.below hb7
            have hb := bthen hb hb7
            have qA := BA.cell
            by_cases hlt : k < b.inner.length
            · obtain ⟨p, hp⟩ := getElem?_of_lt hlt
              obtain ⟨_, hp6, b3, o3, rfl, _, e0⟩ := I3.out k p hp
              have e0 := (hb.cell (World.block_lt_of_cell? w _ e0)).trans e0
              have HX : Hid (b.inner[k]? = some p) := hp
              clear hp
              cases hnb : linkB b p.link with
              | false =>
                have HF : Hid (r = false) := by rw [← HN.out]; exact all_not HX.out hnb
                go_wp2_with fail
                refine wp_region_gr (by kernel_rfl) (by kernel_rfl) ?_
                have gA := fun y => (BA.gr y).cell
                have gE := fun y => gr_cell (w := wr) e0 y
                clear qA e0
                repeat (go_big_quiet_step ((go_at_call 79; exact Calls.gr_of (l2Link_ct _ b p.link false _ (hx.below (gr_below _ _)).big h4 hnb))))
                refine wpQuiet_nil ?_
                intro w8 hb2
                go_wp2_with fail
                go_ret
                exact ⟨by rw [HF.out]; rfl, bthen hb hb2⟩
              | true =>
                have HT : Hid ((b.inner.take (k + 1)).all (fun x => linkB b x.link) = true) := (show (List.take (k + 1) b.inner).all (fun x => linkB b x.link) = true from all_take_snoc (x := p) HA.out HX.out hnb)
                go_wp2_with fail
                refine wp_region_gr (by kernel_rfl) (by kernel_rfl) ?_
                have gA := fun y => (BA.gr y).cell
                have gE := fun y => gr_cell (w := wr) e0 y
                clear qA e0
                repeat (go_big_quiet_step ((go_at_call 79; exact Calls.gr_of (l2Link_ct _ b p.link true _ (hx.below (gr_below _ _)).big h4 hnb))))
                refine wpQuiet_nil ?_
                intro w8 hb2
                clear hnb
                go_wp2_with fail
                go_roundw
                case rel => exact ⟨k + 1, by omega, by go_num, bthen hb7 hb2, HT⟩
                case measure => simp [intOf]; omega
            · have HF : Hid (r = true) := by rw [← HN.out]; exact all_full (by omega) HA.out
              go_wp2_with fail
              go_ret
              exact ⟨by rw [HF.out]; rfl, hb⟩
end Go.Proofs.YthgelhglfbgagaaGreatDoor
