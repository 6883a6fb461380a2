/- Valid bigraphs: the program's test. -/
import Derived.Test.YthgelhglfbgagaaGreatDoorGoodS
namespace Go.Proofs.YthgelhglfbgagaaGreatDoor
open Go Go.RowKit Go.BigFrame

theorem BigAt.six {w : World} {v : Value} {b : Big} (h : BigAt w v b) : ∃ u1 u2 u3 u4, v = .agg #[.int .i64 b.roots, u1, u2, .int .i64 b.edges, u3, u4] := by
  obtain ⟨vn, vq, vo, vi, rfl, _⟩ := h
  exact ⟨_, _, _, _, rfl⟩
set_option maxHeartbeats 2000000 in
theorem cl1_ct (g : Nat) (b : Big) (x : Int) (r : Bool) (w : World) {u1 u2 u3 u4 : Value} (hb : BigAt w (.agg #[.int .i64 b.roots, u1, u2, .int .i64 b.edges, u3, u4]) b) (hB : Box w g #[.int .i64 b.roots, u1, u2, .int .i64 b.edges, u3, u4] 29) (he : 0 ≤ b.edges ∧ b.edges ≤ 8) (hr : (!linkB b x) = r) :
    Calls Tryz.prog 93 #[.int .i64 x, .pointer (some ⟨g, 0, none⟩)] w fun e w' => e = .returned (.bool r) ∧ Below w.heap.size w w' := by
  have HR : Hid ((!linkB b x) = r) := hr
  clear hr
  have q := hB.cell
  go_enter Tryz.func93, Tryz.ntmps93
  go_wp2_with fail
  refine (isLink_ct _ b x (linkB b x) _ hb he rfl).mono ?_
  rintro e w2 ⟨rfl, hb2⟩
  go_wp2_with fail
  go_ret
  exact ⟨ret_bool HR.out, hb2⟩
set_option maxHeartbeats 2000000 in
theorem cl3_ct (g : Nat) (b : Big) (x : Wr) (r : Bool) (w : World) {u1 u2 u3 u4 : Value} (hb : BigAt w (.agg #[.int .i64 b.roots, u1, u2, .int .i64 b.edges, u3, u4]) b) (hB : Box w g #[.int .i64 b.roots, u1, u2, .int .i64 b.edges, u3, u4] 29) (he : 0 ≤ b.edges ∧ b.edges ≤ 8) (hr : (!linkB b x.link) = r) :
    Calls Tryz.prog 97 #[.agg #[.string x.name, .int .i64 x.link], .pointer (some ⟨g, 0, none⟩)] w fun e w' => e = .returned (.bool r) ∧ Below w.heap.size w w' := by
  have HR : Hid ((!linkB b x.link) = r) := hr
  clear hr
  have hA := balloc w (.cells #[.string x.name, .int .i64 x.link] 87)
  have hb := hb.below hA
  have q := (hB.below hA).cell
  have hne : g < w.heap.size := hB.lt
  go_enter Tryz.func97, Tryz.ntmps97
  go_wp2_with fail
  refine (isLink_ct _ b x.link (linkB b x.link) _ hb he rfl).mono ?_
  rintro e w2 ⟨rfl, hb2⟩
  go_wp2_with fail
  go_ret
  exact ⟨ret_bool HR.out, bthen hA hb2⟩
set_option maxHeartbeats 2000000 in
theorem cl2_ct (g gs : Nat) (sig : List Ctl) (b : Big) (p : Int) (r : Bool) (w : World) {vs u1 u2 u3 u4 : Value} (h : Ctx w vs (.agg #[.int .i64 b.roots, u1, u2, .int .i64 b.edges, u3, u4]) sig b) (hB : Box w g #[.int .i64 b.roots, u1, u2, .int .i64 b.edges, u3, u4] 29)
    (hS : w.cell? ⟨gs, 0, none⟩ = some vs) (hro : 0 ≤ b.roots ∧ b.roots ≤ 4) (hp : I64 p) (hok : okN sig b b.nodes.length) (hr : (!underB sig b b.nodes.length p) = r) :
    Calls Tryz.prog 95 #[.int .i64 p, .pointer (some ⟨g, 0, none⟩), .pointer (some ⟨gs, 0, none⟩)] w fun e w' => e = .returned (.bool r) ∧ Below w.heap.size w w' := by
  have HR : Hid ((!underB sig b b.nodes.length p) = r) := hr
  clear hr
  have hnl := h.big.nodes_len
  have q := hB.cell
  obtain ⟨a1, c1, a2, c2, a3, c3, a4, c4, e, _⟩ := h.big.parts
  obtain ⟨rfl, rfl, rfl, rfl⟩ : u1 = .slice a1 b.nodes.length c1 ∧ u2 = .slice a2 b.sites.length c2 ∧ u3 = .slice a3 b.outer.length c3 ∧ u4 = .slice a4 b.inner.length c4 := by simp at e; exact e
  clear e
  go_enter Tryz.func95, Tryz.ntmps95
  go_wp2_with fail
  refine (isParent_ct _ _ sig b p b.nodes.length (underB sig b b.nodes.length p) _ h.sig h.big hp hro hnl hok rfl).mono ?_
  rintro e w2 ⟨rfl, hb2⟩
  go_wp2_with fail
  go_ret
  exact ⟨ret_bool HR.out, hb2⟩
theorem any_not {α : Type} (f : α → Bool) : ∀ (l : List α), l.any (fun x => !f x) = !(l.all f)
  | [] => rfl
  | x :: l => by simp only [List.any_cons, List.all_cons, any_not f l, Bool.not_and]
theorem head_false' {sig : List Ctl} {b : Big} (h : headB sig b = false) : goodB sig b = false := by unfold goodB; rw [h]; rfl
set_option maxRecDepth 100000 in
set_option maxHeartbeats 8000000 in
theorem implIsBigraph_ct (vs v : Value) (sig : List Ctl) (b : Big) (r : Bool) (w : World) (h : Ctx w vs v sig b) (hr : goodB sig b = r) :
    Calls Tryz.prog 35 #[vs, v] w fun e w' => e = .returned (.bool r) ∧ Below w.heap.size w w' := by
  have HR : Hid (goodB sig b = r) := hr
  have hnl := h.big.nodes_len
  clear hr
  obtain ⟨a1, c1, a2, c2, a3, c3, a4, c4, rfl, hnds, hsit, hout, hinn, hI1, hI2⟩ := h.big.parts
  obtain ⟨as_, cs_, rfl, _, hsgl, s3⟩ := h.sig.open
  unfold I64 at hI1 hI2
  have hsl : b.sites.length ≤ 1073741824 := by obtain ⟨_, _, _, _, h, _⟩ := hsit.open; exact h
  have hil : b.inner.length ≤ 1073741824 := by obtain ⟨_, _, _, _, h, _⟩ := hinn.open; exact h
  have E1 : Hid (∀ args w, (callFunc 93 args).run Tryz.prog w = .ok (.enter 93 args) w) := enters_of Tryz.func93 (by kernel_rfl) rfl
  have E2 : Hid (∀ args w, (callFunc 95 args).run Tryz.prog w = .ok (.enter 95 args) w) := enters_of Tryz.func95 (by kernel_rfl) rfl
  have E3 : Hid (∀ args w, (callFunc 97 args).run Tryz.prog w = .ok (.enter 97 args) w) := enters_of Tryz.func97 (by kernel_rfl) rfl
  have S3 : Hid _ := s3
  clear s3
  have hbA := bthen (balloc w (.cells #[.slice as_ sig.length cs_] 32)) (balloc _ (.cells #[.int .i64 b.roots, .slice a1 b.nodes.length c1, .slice a2 b.sites.length c2, .int .i64 b.edges, .slice a3 b.outer.length c3, .slice a4 b.inner.length c4] 29))
  go_enter Tryz.func35, Tryz.ntmps35
  go_wp2_with fail
  obtain ⟨W1, hW1⟩ : ∃ W, W = (w.alloc (.cells #[.slice as_ sig.length cs_] 32)).alloc (.cells #[.int .i64 b.roots, .slice a1 b.nodes.length c1, .slice a2 b.sites.length c2, .int .i64 b.edges, .slice a3 b.outer.length c3, .slice a4 b.inner.length c4] 29) := ⟨_, rfl⟩
  rw [← hW1] at hbA ⊢
  have BS : Box W1 w.heap.size #[.slice as_ sig.length cs_] 32 := by rw [hW1]; exact (Box.new _ _ _).alloc _
  have BA : Box W1 (w.heap.size + 1) #[.int .i64 b.roots, .slice a1 b.nodes.length c1, .slice a2 b.sites.length c2, .int .i64 b.edges, .slice a3 b.outer.length c3, .slice a4 b.inner.length c4] 29 := by rw [hW1]; exact Box.new' _ _ _ (by simp)
  have hb := hbA
  have hx := h.below hb
  clear hW1 hbA
  cases hsg : sigB sig with
  | false =>
    have HN : Hid (r = false) := by rw [← HR.out]; exact head_false' (by unfold headB; rw [hsg]; rfl)
    refine (implIsSignature_ct _ sig false _ hx.sig hsg).mono ?_
    rintro e w2 ⟨rfl, hb2⟩
    go_wp2_with fail
    go_ret
    exact ⟨by rw [HN.out]; rfl, bthen hb hb2⟩
  | true =>
  refine (implIsSignature_ct _ sig true _ hx.sig hsg).mono ?_
  rintro e w2 ⟨rfl, hb2⟩
  have BS := BS.below hb2
  have BA := BA.below hb2
  have hx := hx.below hb2
  have hb := bthen hb hb2
  clear hb2
  have qA := BA.cell
  by_cases h1 : 0 ≤ b.roots ∧ b.roots ≤ 4
  case neg =>
    have HN : Hid (r = false) := by rw [← HR.out]; exact head_false' (by unfold headB; rw [decide_eq_false h1]; simp)
    go_wp2_with fail
    refine (within_ct _ _ _ false (by simp only [Bool.false_eq_true, false_iff]; exact h1) _).mono ?_
    rintro e w3 ⟨rfl, rfl⟩
    go_wp2_with fail
    go_ret
    exact ⟨by rw [HN.out]; rfl, hb⟩
  go_wp2_with fail
  refine (within_ct _ _ _ true (by simpa using h1) _).mono ?_
  rintro e w3 ⟨rfl, rfl⟩
  by_cases h2 : b.nodes.length ≤ 8
  case neg =>
    have HN : Hid (r = false) := by rw [← HR.out]; exact head_false' (by unfold headB; rw [decide_eq_false h2]; simp)
    go_wp2_with fail
    go_ret
    exact ⟨by rw [HN.out]; rfl, hb⟩
  by_cases h3 : b.sites.length ≤ 4
  case neg =>
    have HN : Hid (r = false) := by rw [← HR.out]; exact head_false' (by unfold headB; rw [decide_eq_false h3]; simp)
    go_wp2_with fail
    go_ret
    exact ⟨by rw [HN.out]; rfl, hb⟩
  by_cases h4 : 0 ≤ b.edges ∧ b.edges ≤ 8
  case neg =>
    have HN : Hid (r = false) := by rw [← HR.out]; exact head_false' (by unfold headB; rw [decide_eq_false h4]; simp)
    go_wp2_with fail
    refine (within_ct _ _ _ false (by simp only [Bool.false_eq_true, false_iff]; exact h4) _).mono ?_
    rintro e w3 ⟨rfl, rfl⟩
    go_wp2_with fail
    go_ret
    exact ⟨by rw [HN.out]; rfl, hb⟩
  go_wp2_with fail
  refine (within_ct _ _ _ true (by simpa using h4) _).mono ?_
  rintro e w4 ⟨rfl, rfl⟩
  go_wp2_with fail
  cases h5 : namesB b.outer with
  | false =>
    have HN : Hid (r = false) := by rw [← HR.out]; exact head_false' (by unfold headB; rw [h5]; simp)
    refine (areNames_ct _ b.outer false _ (hout.below hb) h5).mono ?_
    rintro e w5 ⟨rfl, hb2⟩
    go_wp2_with fail
    go_ret
    exact ⟨by rw [HN.out]; rfl, bthen hb hb2⟩
  | true =>
  refine (areNames_ct _ b.outer true _ (hout.below hb) h5).mono ?_
  rintro e w5 ⟨rfl, hb2⟩
  have BS := BS.below hb2
  have BA := BA.below hb2
  have hx := hx.below hb2
  have hb := bthen hb hb2
  clear hb2
  have qA := BA.cell
  go_wp2_with fail
  refine (innerNames_ct _ b _ hx.big (by omega)).mono ?_
  rintro e w6 ⟨u, rfl, hu, hb2⟩
  have hu := hu.at
  have BS := BS.below hb2
  have BA := BA.below hb2
  have hx := hx.below hb2
  have hb := bthen hb hb2
  clear hb2 qA
  go_wp2_with fail
  cases h7 : namesB (innerN b) with
  | false =>
    have HN : Hid (r = false) := by
      rw [← HR.out]; refine head_false' ?_
      unfold headB; unfold innerN at h7; rw [h7]; simp
    refine (areNames_ct _ (innerN b) false _ hu h7).mono ?_
    rintro e w7 ⟨rfl, hb2⟩
    go_wp2_with fail
    go_ret
    exact ⟨by rw [HN.out]; rfl, bthen hb hb2⟩
  | true =>
  have hh : headB sig b = true := by
    unfold headB; unfold innerN at h7; rw [hsg, decide_eq_true h1, decide_eq_true h2, decide_eq_true h3, decide_eq_true h4, h5, h7]; rfl
  have HH : Hid (headB sig b = true) := hh
  have hsl6 := sig_len hsg
  refine (areNames_ct _ (innerN b) true _ hu h7).mono ?_
  rintro e w7 ⟨rfl, hb2⟩
  have BS := BS.below hb2
  have BA := BA.below hb2
  have hx := hx.below hb2
  have hb := bthen hb hb2
  clear hb2 hu h7 h5 hsg hh
  have HN : Hid (((List.range b.nodes.length).all (nodeStep sig b) && (b.sites.all (underB sig b b.nodes.length) && b.inner.all (fun x => linkB b x.link))) = r) := by
    show _ = _; rw [← HR.out]; unfold goodB; rw [HH.out, Bool.true_and]
  clear HR
  have qA := BA.cell
  obtain ⟨_, _, _, _, _, n3⟩ := hnds.open
  have N3 : Hid _ := n3
  clear n3
  go_wp2_with fail
  clear qA
  go_loopw [5, 6, 49] (fun _ _ i W => ∃ k : Nat, k ≤ b.nodes.length ∧ i = .int .i64 k ∧ Below w7.heap.size w7 W ∧ Hid ((List.range k).all (nodeStep sig b) = true)) (fun _ _ i _ => b.nodes.length - (intOf i).toNat)
  case atStart => exact ⟨0, Nat.zero_le _, rfl, Below.refl _ _, rfl⟩
  case round =>
    obtain ⟨k, hk, rfl, hb7, HA⟩ := hrel
    have BS := BS.below hb7
    have BA := BA.below hb7
    have hx := hx.below hb7
    have hb := bthen hb hb7
    by_cases hlt : k < b.nodes.length
    · obtain ⟨n, hn⟩ := getElem?_of_lt hlt
      obtain ⟨hn1, hn2, bn, on, ul, rfl, hul, e0, e1, e2⟩ := N3.out k n hn
      have HX : Hid (b.nodes[k]? = some n) := hn
      have hok := okN_of (show k ≤ b.nodes.length by omega) HA.out
      obtain ⟨al, cl, rfl, hl1, hl2, hl3⟩ := hul.open
      have hctl := hn1
      have hpar := hn2
      unfold I64 at hctl hpar
      have e0 := (hb.cell (World.block_lt_of_cell? w _ e0)).trans e0
      have e1 := (hb.cell (World.block_lt_of_cell? w _ e1)).trans e1
      have e2 := (hb.cell (World.block_lt_of_cell? w _ e2)).trans e2
      clear hn hl3
      go_wp2_with fail
      obtain ⟨W2, hW2⟩ : ∃ W, W = wr.alloc (.cells #[.int .i64 n.ctl, .int .i64 n.par, .slice al n.links.length cl] 57) := ⟨_, rfl⟩
      rw [← hW2]
      have BN : Box W2 wr.heap.size #[.int .i64 n.ctl, .int .i64 n.par, .slice al n.links.length cl] 57 := by rw [hW2]; exact Box.new _ _ _
      have hB : Below wr.heap.size wr W2 := by rw [hW2]; exact balloc _ _
      have BS := BS.below hB
      have BA := BA.below hB
      have hx := hx.below hB
      have hb7 := bthen hb7 hB
      have hb := bthen hb hB
      have hlk := hul.below hb
      clear hW2 e0 e1 e2 hB
      have gA := fun y => (BA.gr y).cell
      have gN := fun y => (BN.gr y).cell
      have gT := fun y => (BS.gr y).cell
      by_cases hc : 0 ≤ n.ctl ∧ n.ctl ≤ (sig.length : Int) - 1
      case neg =>
        have HF : Hid (r = false) := by rw [← HN.out, all_range_not hlt (by rw [nodeStep_eq HX.out]; unfold nodeB; rw [decide_eq_false hc]; rfl)]; rfl
        refine wp_region_gr (by kernel_rfl) (by kernel_rfl) ?_
        repeat (go_big_quiet_step ((go_at_call 82; exact Calls.gr_same (within_ct _ _ _ false (by simp only [Bool.false_eq_true, false_iff]; exact hc) _))))
        refine wpQuiet_nil ?_
        intro w8 hb2
        go_wp2_with fail
        go_ret
        exact ⟨by rw [HF.out]; rfl, bthen hb hb2⟩
      obtain ⟨j, hj⟩ : ∃ j : Nat, n.ctl = j := ⟨n.ctl.toNat, by omega⟩
      obtain ⟨ct, hct⟩ := getElem?_of_lt (l := sig) (i := j) (by omega)
      obtain ⟨_, hpo, _, b2, o2, rfl, _, f1, _⟩ := S3.out j ct hct
      unfold I64 at hpo
      have f1 := (hb.cell (World.block_lt_of_cell? w _ f1)).trans f1
      have gS := fun y => gr_cell (w := W2) f1 y
      rw [hj] at BN gN hc
      have HJ : Hid (n.ctl = j) := hj
      have HC : Hid (sig[j]? = some ct) := hct
      have hjs : (j : Int) < (sig.length : Int) := by omega
      clear f1 hj hct hctl
      cases hun : underB sig b k n.par with
      | false =>
        have HF : Hid (r = false) := by rw [← HN.out, all_range_not hlt (by rw [nodeStep_eq HX.out]; unfold nodeB; rw [hun]; simp)]; rfl
        refine wp_region_gr (by kernel_rfl) (by kernel_rfl) ?_
        repeat (go_big_quiet_step (first | (go_at_call 82; exact Calls.gr_same (within_ct _ _ _ true (by simpa using hc) _)) | (go_at_call 91; exact Calls.gr_of (isParent_ct _ _ sig b n.par k false _ (hx.below (gr_below _ _)).sig (hx.below (gr_below _ _)).big hn2 h1 (by omega) hok hun))))
        refine wpQuiet_nil ?_
        intro w8 hb2
        go_wp2_with fail
        go_ret
        exact ⟨by rw [HF.out]; rfl, bthen hb hb2⟩
      | true =>
        by_cases hpl : (n.links.length : Int) = ct.ports
        case neg =>
          have HF : Hid (r = false) := by
            rw [← HN.out, all_range_not hlt (by rw [nodeStep_eq HX.out]; unfold nodeB portsB; rw [HJ.out, Int.toNat_natCast, HC.out]; simp only [decide_eq_false hpl, Bool.false_and, Bool.and_false])]; rfl
          have hpl' : ((n.links.length : Int) != ct.ports) = true := by simpa using hpl
          have hpl2 : ((n.links.length : Int) == ct.ports) = false := by simpa using hpl
          refine wp_region_gr (by kernel_rfl) (by kernel_rfl) ?_
          repeat (go_big_quiet_step (first | (go_at_call 82; exact Calls.gr_same (within_ct _ _ _ true (by simpa using hc) _)) | (go_at_call 91; exact Calls.gr_of (isParent_ct _ _ sig b n.par k true _ (hx.below (gr_below _ _)).sig (hx.below (gr_below _ _)).big hn2 h1 (by omega) hok hun))))
          refine wpQuiet_nil ?_
          intro w8 hb2
          go_wp2_with fail
          go_ret
          exact ⟨by rw [HF.out]; rfl, bthen hb hb2⟩
        obtain ⟨m, hm⟩ : ∃ m, m = n.links.all (linkB b) := ⟨_, rfl⟩
        have HM : Hid (nodeStep sig b k = m) := by
          show _ = _; rw [nodeStep_eq HX.out, hm]; unfold nodeB portsB; rw [HJ.out, Int.toNat_natCast, HC.out]; simp only [decide_eq_true hpl, decide_eq_true hc, hun, Bool.true_and]
        have HL : Hid (n.links.any (fun x => !linkB b x) = !m) := by show _ = _; rw [any_not, hm]
        rw [← hpl] at gS hpo
        clear hpl hm
        cases m with
        | false =>
          have HF : Hid (r = false) := by rw [← HN.out, all_range_not hlt HM.out]; rfl
          refine wp_region_gr (by kernel_rfl) (by kernel_rfl) ?_
          repeat (go_big_quiet_step (first | (go_at_call 82; exact Calls.gr_same (within_ct _ _ _ true (by simpa using hc) _)) | (go_at_call 91; exact Calls.gr_of (isParent_ct _ _ sig b n.par k true _ (hx.below (gr_below _ _)).sig (hx.below (gr_below _ _)).big hn2 h1 (by omega) hok hun)) | (go_at_call 92; exact Calls.gr_of (contInt_ct 93 _ E1.out (fun x => !linkB b x) _ n.links true _ (hlk.below (gr_below _ _)) (fun x _ W hW => by rw [app2]; exact cl1_ct _ b x _ W ((hx.below (gr_below _ _)).big.below hW) ((BA.gr _).below hW) h4 rfl) HL.out))))
          refine wpQuiet_nil ?_
          intro w8 hb2
          go_wp2_with fail
          go_ret
          exact ⟨by rw [HF.out]; rfl, bthen hb hb2⟩
        | true =>
          have HT : Hid ((List.range (k + 1)).all (nodeStep sig b) = true) := all_range_snoc HA.out HM.out
          refine wp_region_gr (by kernel_rfl) (by kernel_rfl) ?_
          repeat (go_big_quiet_step (first | (go_at_call 82; exact Calls.gr_same (within_ct _ _ _ true (by simpa using hc) _)) | (go_at_call 91; exact Calls.gr_of (isParent_ct _ _ sig b n.par k true _ (hx.below (gr_below _ _)).sig (hx.below (gr_below _ _)).big hn2 h1 (by omega) hok hun)) | (go_at_call 92; exact Calls.gr_of (contInt_ct 93 _ E1.out (fun x => !linkB b x) _ n.links false _ (hlk.below (gr_below _ _)) (fun x _ W hW => by rw [app2]; exact cl1_ct _ b x _ W ((hx.below (gr_below _ _)).big.below hW) ((BA.gr _).below hW) h4 rfl) HL.out))))
          refine wpQuiet_nil ?_
          intro w8 hb2
          have hb7 := bthen hb7 hb2
          clear gA gN gT gS
          go_wp2_with fail
          go_roundw
          case rel => exact ⟨k + 1, by omega, by go_num, hb7, HT⟩
          case measure => simp [intOf]; omega
    · have e : k = b.nodes.length := by omega
      subst e
      have hok : okN sig b b.nodes.length := okN_of (Nat.le_refl _) HA.out
      have HN : Hid ((b.sites.all (underB sig b b.nodes.length) && b.inner.all (fun x => linkB b x.link)) = r) := by show _ = _; rw [← HN.out, HA.out, Bool.true_and]
      obtain ⟨wa, rfl⟩ : ∃ W, W = wr := ⟨_, rfl⟩
      have qA := BA.cell
      have hsc := BS.cell 0
      have hsc : wa.cell? ⟨w.heap.size, 0, none⟩ = some (.slice as_ sig.length cs_) := hsc
      have hp6 : ∀ p ∈ b.sites, I64 p := hsit.2
      obtain ⟨m, hm⟩ : ∃ m, m = b.sites.all (underB sig b b.nodes.length) := ⟨_, rfl⟩
      obtain ⟨q, hq⟩ : ∃ q, q = b.inner.all (fun x => linkB b x.link) := ⟨_, rfl⟩
      have HS : Hid (b.sites.any (fun x => !underB sig b b.nodes.length x) = !m) := by show _ = _; rw [any_not, hm]
      have HQ : Hid (b.inner.any (fun x => !linkB b x.link) = !q) := by show _ = _; rw [any_not, hq]
      rw [← hm, ← hq] at HN
      have HS0 : Hid (wa.cell? ⟨w.heap.size, 0, none⟩ = some (.slice as_ sig.length cs_)) := hsc
      clear hm hq hsc
      go_wp2_with fail
      refine (contInt_ct 95 _ E2.out (fun x => !underB sig b b.nodes.length x) _ b.sites (!m) _ (hsit.below hb) (fun x hxm W hW => by rw [app3]; exact cl2_ct _ _ sig b x _ W (hx.below hW) (BA.below hW) ((hW.cell (World.block_lt_of_cell? _ _ HS0.out)).trans HS0.out) h1 (hp6 x hxm) hok rfl) HS.out).mono ?_
      rintro e w8 ⟨rfl, hb2⟩
      have BA := BA.below hb2
      have hx := hx.below hb2
      have hb := bthen hb hb2
      have qA := BA.cell
      clear hb2
      cases m with
      | false =>
        have HF : Hid (r = false) := by rw [← HN.out]; rfl
        go_wp2_with fail
        go_ret
        exact ⟨by rw [HF.out]; rfl, hb⟩
      | true =>
        have HF : Hid (q = r) := HN.out
        go_wp2_with fail
        refine (contWr_ct 97 _ E3.out (fun x => !linkB b x.link) _ b.inner (!q) _ (hinn.below hb) (fun x _ W hW => by rw [app2]; exact cl3_ct _ b x _ W (hx.big.below hW) (BA.below hW) h4 rfl) HQ.out).mono ?_
        rintro e w9 ⟨rfl, hb2⟩
        have hb := bthen hb hb2
        go_wp2_with fail
        go_ret
        exact ⟨ret_bool (by rw [← HF.out]; (try simp)), hb⟩
end Go.Proofs.YthgelhglfbgagaaGreatDoor
