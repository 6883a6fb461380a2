/- Signatures: the reference's test and the program's. -/
import Derived.Test.YtanndcclkmcfbaaDoorFind
namespace Go.Proofs.YtanndcclkmcfbaaDoor
open Go Go.RowKit Go.BigFrame

theorem other_not {l : List Ctl} {k j : Nat} {c d : Ctl} (hc : l[k]? = some c) (hj : j < k) (hd : l[j]? = some d) (he : otherB c d = false) : sigStep l k = false := by
  rw [sigStep_eq hc, all_not (l := l.take k) (k := j) (x := d) (by rw [List.getElem?_take, if_pos hj]; exact hd) he, Bool.and_false]
theorem sig_step_ctl {l : List Ctl} {k : Nat} {c : Ctl} (hc : l[k]? = some c) (h : ctlB c = false) : sigStep l k = false := by rw [sigStep_eq hc, h]; rfl

set_option maxHeartbeats 1000000 in
theorem l2Sig_ct (v : Value) (l : List Ctl) (r : Bool) (w : World) (h : CtlsAt w v l) (hr : sigB l = r) : Calls Tryd.prog 37 #[v] w fun e w' => e = .returned (.bool r) ∧ Below w.heap.size w w' := by
  have HR : Hid (sigB l = r) := hr
  clear hr
  obtain ⟨a, c, rfl, h1, h2, h3⟩ := h.open
  clear h
  go_enter Tryd.func37, Tryd.ntmps37
  go_wp2_with fail
  go_loopw [3] (fun i W => ∃ k : Nat, k ≤ l.length ∧ i = .int .i64 k ∧ Below w.heap.size w W ∧ Hid ((List.range k).all (sigStep l) = true)) (fun i _ => l.length - (intOf i).toNat)
  case atStart => exact ⟨0, Nat.zero_le _, rfl, Below.refl _ _, rfl⟩
  case round =>
    obtain ⟨k, hk, rfl, hb, HA⟩ := hrel
    by_cases hlt : k < l.length
    · obtain ⟨x, hx⟩ := getElem?_of_lt hlt
      obtain ⟨hs0, hs1, hs2, b, o, rfl, hc0, hc1, hc2⟩ := h3 k x hx
      have g0 := (hb.cell (World.block_lt_of_cell? w _ hc0)).trans hc0
      have g1 := (hb.cell (World.block_lt_of_cell? w _ hc1)).trans hc1
      have g2 := (hb.cell (World.block_lt_of_cell? w _ hc2)).trans hc2
      unfold I64 at hs1 hs2
      clear hc0 hc1 hc2
      have HX : Hid (l[k]? = some x) := hx
      have H3 : Hid _ := h3
      clear h3 hx
      cases hnm : nameB x.name with
      | false =>
        have HN : Hid (r = false) := by rw [← HR.out]; exact sig_not hlt (sig_step_ctl HX.out (by unfold ctlB; rw [hnm]; rfl))
        go_wp2_with (go_at_call 51; refine (l2Name_ct x.name hs0 false hnm _).mono ?_; rintro e w2 ⟨rfl, rfl⟩)
        go_ret
        exact ⟨by rw [HN.out]; rfl, hb⟩
      | true =>
        by_cases hp : 0 ≤ x.ports ∧ x.ports ≤ 3
        case neg =>
          have HN : Hid (r = false) := by rw [← HR.out]; exact sig_not hlt (sig_step_ctl HX.out (by unfold ctlB; rw [decide_eq_false hp]; simp))
          go_wp2_with (first | (go_at_call 51; refine (l2Name_ct x.name hs0 true hnm _).mono ?_; rintro e w2 ⟨rfl, rfl⟩) | (go_at_call 38; refine (l1In_ct _ _ _ false (by simp only [Bool.false_eq_true, false_iff]; exact hp) _).mono ?_; rintro e w2 ⟨rfl, rfl⟩))
          go_ret
          exact ⟨by rw [HN.out]; rfl, hb⟩
        by_cases hq : 0 ≤ x.kind ∧ x.kind ≤ 2
        case neg =>
          have HN : Hid (r = false) := by rw [← HR.out]; exact sig_not hlt (sig_step_ctl HX.out (by unfold ctlB; rw [decide_eq_false hq]; simp))
          go_wp2_with fail
          refine (l2Name_ct x.name hs0 true hnm _).mono ?_
          rintro e w2 ⟨rfl, rfl⟩
          go_wp2_with fail
          refine (l1In_ct _ _ _ true (by simpa using hp) _).mono ?_
          rintro e w2 ⟨rfl, rfl⟩
          go_wp2_with fail
          refine (l1In_ct _ _ _ false (by simp only [Bool.false_eq_true, false_iff]; exact hq) _).mono ?_
          rintro e w2 ⟨rfl, rfl⟩
          go_wp2_with fail
          go_ret
          exact ⟨by rw [HN.out]; rfl, hb⟩
        have HC : Hid (ctlB x = true) := by show _ = _; unfold ctlB; rw [hnm, decide_eq_true hp, decide_eq_true hq]; rfl
        go_wp2_with fail
        refine (l2Name_ct x.name hs0 true hnm _).mono ?_
        rintro e w2 ⟨rfl, rfl⟩
        go_wp2_with fail
        refine (l1In_ct _ _ _ true (by simpa using hp) _).mono ?_
        rintro e w2 ⟨rfl, rfl⟩
        go_wp2_with fail
        refine (l1In_ct _ _ _ true (by simpa using hq) _).mono ?_
        rintro e w2 ⟨rfl, rfl⟩
        clear hp hq hnm
        go_wp2_with fail
        go_loopw [4] (fun i W => ∃ j : Nat, j ≤ k ∧ i = .int .i64 j ∧ Below w2.heap.size w2 W ∧ Hid ((l.take j).all (otherB x) = true)) (fun i _ => k - (intOf i).toNat)
        case atStart => exact ⟨0, Nat.zero_le _, rfl, Below.refl _ _, (by show _ = _; simp)⟩
        case round =>
          obtain ⟨j, hj, rfl, hb3, HB⟩ := hrel
          have hb := bthen hb hb3
          have g0 := (hb3.cell (World.block_lt_of_cell? _ _ g0)).trans g0
          by_cases hjk : j < k
          · obtain ⟨y, hy⟩ := getElem?_of_lt (show j < l.length by omega)
            obtain ⟨hy0, _, _, b', o', he, hd0, _, _⟩ := H3.out j y hy
            obtain ⟨rfl, rfl⟩ : b = b' ∧ o = o' := by simpa using he
            clear he
            have q0 := (hb.cell (World.block_lt_of_cell? w _ hd0)).trans hd0
            have HY : Hid (l[j]? = some y) := hy
            have gg0 := fun z => gr_cell (w := wr) g0 z
            have gq0 := fun z => gr_cell (w := wr) q0 z
            clear hd0 hy
            cases hyx : (y.name.toList == x.name.toList) with
            | true =>
              have HN : Hid (r = false) := by rw [← HR.out]; exact sig_not hlt (other_not HX.out hjk HY.out (by unfold otherB; rw [hyx]; rfl))
              go_wp2_with fail
              refine wp_region_gr (by kernel_rfl) (by kernel_rfl) ?_
              repeat (go_big_quiet_step (fail))
              refine wpQuiet_nil ?_
              intro w2 hb2
              have hb := bthen hb hb2
              go_wp2_with fail
              go_ret
              exact ⟨by rw [HN.out]; rfl, hb⟩
            | false =>
              have HT : Hid ((l.take (j + 1)).all (otherB x) = true) := all_take_snoc HB.out HY.out (by unfold otherB; rw [hyx]; rfl)
              go_wp2_with fail
              refine wp_region_gr (by kernel_rfl) (by kernel_rfl) ?_
              repeat (go_big_quiet_step (fail))
              refine wpQuiet_nil ?_
              intro w2 hb2
              have hb := bthen hb hb2
              go_wp2_with fail
              go_roundw
              case rel => exact ⟨j + 1, by omega, by go_num, bthen hb3 hb2, HT⟩
              case measure => simp [intOf]; omega
          · have e : j = k := by omega
            subst e
            have HT : Hid ((List.range (j + 1)).all (sigStep l) = true) := all_range_snoc HA.out (by rw [sigStep_eq HX.out, HC.out, HB.out]; rfl)
            go_wp2_with fail
            go_roundw
            case rel => exact ⟨j + 1, by omega, by go_num, hb, HT⟩
            case measure => simp [intOf]; omega
    · have HN : Hid (decide (1 ≤ l.length ∧ l.length ≤ 6) = r) := by
        have e : l.length = k := by omega
        have := HA.out
        rw [← e] at this
        rw [← HR.out]; unfold sigB
        show _ = _; rw [this, Bool.true_and]
      clear h3
      go_wp2_with fail
      refine (l1In_ct _ _ _ r (by rw [← HN.out, decide_eq_true_iff]; omega) _).mono ?_
      rintro e w2 ⟨rfl, rfl⟩
      go_wp2_with fail
      go_ret
      exact ⟨rfl, hb⟩

set_option maxHeartbeats 1000000 in
theorem isSigCl_ct (g : Nat) (x y : Ctl) (w : World) (r : Bool) (hg : w.cell? ⟨g, 0, none⟩ = some (.string x.name)) (hr : (y.name.toList == x.name.toList) = r) :
    Calls Tryd.prog 53 #[.agg #[.string y.name, .int .i64 y.ports, .int .i64 y.kind], .pointer (some ⟨g, 0, none⟩)] w fun e w' => e = .returned (.bool r) ∧ Below w.heap.size w w' := by
  have hA := balloc w (.cells #[.string y.name, .int .i64 y.ports, .int .i64 y.kind] 47)
  have hg2 := (hA.cell (World.block_lt_of_cell? w _ hg)).trans hg
  have hne : ¬ g = w.heap.size := by have := World.block_lt_of_cell? w _ hg; simp at this; omega
  have HR : Hid ((y.name.toList == x.name.toList) = r) := hr
  clear hr hg
  go_enter Tryd.func53, Tryd.ntmps53
  go_wp2
  go_ret
  exact ⟨ret_bool HR.out, hA⟩
theorem other_any (x : Ctl) (l : List Ctl) : l.any (fun y => y.name.toList == x.name.toList) = !(l.all (otherB x)) := by
  induction l with
  | nil => rfl
  | cons y l ih => simp only [List.any_cons, List.all_cons, ih, otherB, Bool.not_and, Bool.not_not]
theorem CtlsM.take {M : Nat} {w : World} {a : Option Addr} {n c : Nat} {l : List Ctl} (h : CtlsM M w (.slice a n c) l) (k : Nat) (hk : k ≤ l.length) : CtlsM M w (.slice a k c) (l.take k) := by
  obtain ⟨⟨a', c', e, h2, h3, h4, h5⟩, h6⟩ := h
  simp only [Value.slice.injEq, List.length_map] at e h2 h3
  obtain ⟨rfl, rfl, rfl⟩ := e
  refine ⟨⟨a, c, by simp [Nat.min_eq_left hk], by simp; omega, by simp; omega, fun r hr => h4 r ?_, fun i r hr => ?_⟩, fun x hx => h6 x (List.mem_of_mem_take hx)⟩
  · rw [List.map_take] at hr; exact List.mem_of_mem_take hr
  · rw [List.map_take, List.getElem?_take] at hr
    split at hr
    · exact h5 i r hr
    · cases hr
set_option maxRecDepth 100000 in
set_option maxHeartbeats 1000000 in
theorem implIsSignature_ct (v : Value) (l : List Ctl) (r : Bool) (w : World) (h : CtlsAt w v l) (hr : sigB l = r) : Calls Tryd.prog 42 #[v] w fun e w' => e = .returned (.bool r) ∧ Below w.heap.size w w' := by
  have HR : Hid (sigB l = r) := hr
  clear hr
  obtain ⟨a, c, rfl, h1, h2, h3⟩ := h.open
  have eg : ∀ args w, (callFunc 53 args).run Tryd.prog w = .ok (.enter 53 args) w := enters_of Tryd.func53 (by kernel_rfl) rfl
  have EG : Hid _ := eg
  clear eg
  by_cases hlen : 1 ≤ l.length ∧ l.length ≤ 6
  case neg =>
    have HN : Hid (r = false) := by rw [← HR.out]; exact sig_len_not hlen
    clear h h3
    go_enter Tryd.func42, Tryd.ntmps42
    go_wp2_with fail
    refine (within_ct _ _ _ false (by simp only [Bool.false_eq_true, false_iff]; omega) _).mono ?_
    rintro e w2 ⟨rfl, rfl⟩
    go_wp2_with fail
    go_ret
    exact ⟨by rw [HN.out]; rfl, Below.refl _ _⟩
  go_enter Tryd.func42, Tryd.ntmps42
  go_wp2_with fail
  refine (within_ct _ _ _ true (by simp only [true_iff]; omega) _).mono ?_
  rintro e w2 ⟨rfl, rfl⟩
  go_wp2_with fail
  go_loopw [3, 4, 11] (fun _ _ i W => ∃ k : Nat, k ≤ l.length ∧ i = .int .i64 k ∧ Below w2.heap.size w2 W ∧ Hid ((List.range k).all (sigStep l) = true)) (fun _ _ i _ => l.length - (intOf i).toNat)
  case atStart => exact ⟨0, Nat.zero_le _, rfl, Below.refl _ _, rfl⟩
  case round =>
    obtain ⟨k, hk, rfl, hb, HA⟩ := hrel
    by_cases hlt : k < l.length
    · obtain ⟨x, hx⟩ := getElem?_of_lt hlt
      obtain ⟨hs0, hs1, hs2, b, o, rfl, hc0, hc1, hc2⟩ := h3 k x hx
      have g0 := (hb.cell (World.block_lt_of_cell? w2 _ hc0)).trans hc0
      have g1 := (hb.cell (World.block_lt_of_cell? w2 _ hc1)).trans hc1
      have g2 := (hb.cell (World.block_lt_of_cell? w2 _ hc2)).trans hc2
      have hB := balloc wr (.cells #[.string x.name, .int .i64 x.ports, .int .i64 x.kind] 47)
      have hbB := bthen hb hB
      unfold I64 at hs1 hs2
      clear hc0 hc1 hc2
      have HX : Hid (l[k]? = some x) := hx
      clear h3 hx
      have hq : ∀ W, Below (wr.alloc (.cells #[.string x.name, .int .i64 x.ports, .int .i64 x.kind] 47)).heap.size (wr.alloc (.cells #[.string x.name, .int .i64 x.ports, .int .i64 x.kind] 47)) W → ∀ j, W.cell? ⟨wr.heap.size, j, none⟩ = (#[.string x.name, .int .i64 x.ports, .int .i64 x.kind] : Array Value)[j]? := fun W hW j => ((Box.new wr _ _).below hW).cell j
      have HQ : Hid _ := hq
      clear hq
      cases hnm : nameB x.name with
      | false =>
        have HN : Hid (r = false) := by rw [← HR.out]; exact sig_not hlt (sig_step_ctl HX.out (by unfold ctlB; rw [hnm]; rfl))
        go_wp2_with (go_at_call 46; refine (isName_ct x.name hs0 false hnm _).mono ?_; rintro e w3 ⟨rfl, hb3⟩)
        go_ret
        exact ⟨by rw [HN.out]; rfl, bthen hbB hb3⟩
      | true =>
        by_cases hp : 0 ≤ x.ports ∧ x.ports ≤ 3
        case neg =>
          have HN : Hid (r = false) := by rw [← HR.out]; exact sig_not hlt (sig_step_ctl HX.out (by unfold ctlB; rw [decide_eq_false hp]; simp))
          go_wp2_with fail
          refine (isName_ct x.name hs0 true hnm _).mono ?_
          rintro e w3 ⟨rfl, hb3⟩
          have q3 := HQ.out _ hb3
          go_wp2_with fail
          refine (within_ct _ _ _ false (by simp only [Bool.false_eq_true, false_iff]; exact hp) _).mono ?_
          rintro e w4 ⟨rfl, rfl⟩
          go_wp2_with fail
          go_ret
          exact ⟨by rw [HN.out]; rfl, bthen hbB hb3⟩
        by_cases hq : 0 ≤ x.kind ∧ x.kind ≤ 2
        case neg =>
          have HN : Hid (r = false) := by rw [← HR.out]; exact sig_not hlt (sig_step_ctl HX.out (by unfold ctlB; rw [decide_eq_false hq]; simp))
          go_wp2_with fail
          refine (isName_ct x.name hs0 true hnm _).mono ?_
          rintro e w3 ⟨rfl, hb3⟩
          have q3 := HQ.out _ hb3
          go_wp2_with fail
          refine (within_ct _ _ _ true (by simpa using hp) _).mono ?_
          rintro e w4 ⟨rfl, rfl⟩
          go_wp2_with fail
          refine (within_ct _ _ _ false (by simp only [Bool.false_eq_true, false_iff]; exact hq) _).mono ?_
          rintro e w5 ⟨rfl, rfl⟩
          go_wp2_with fail
          go_ret
          exact ⟨by rw [HN.out]; rfl, bthen hbB hb3⟩
        have HC : Hid (ctlB x = true) := by show _ = _; unfold ctlB; rw [hnm, decide_eq_true hp, decide_eq_true hq]; rfl
        obtain ⟨m, hm⟩ : ∃ m, m = (l.take k).all (otherB x) := ⟨_, rfl⟩
        have HM : Hid (m = (l.take k).all (otherB x)) := hm
        clear hm
        go_wp2_with fail
        refine (isName_ct x.name hs0 true hnm _).mono ?_
        rintro e w3 ⟨rfl, hb3⟩
        have q3 := HQ.out _ hb3
        have ht := (h.below (bthen hbB hb3)).take k (by omega)
        go_wp2_with fail
        refine (within_ct _ _ _ true (by simpa using hp) _).mono ?_
        rintro e w4 ⟨rfl, rfl⟩
        go_wp2_with fail
        refine (within_ct _ _ _ true (by simpa using hq) _).mono ?_
        rintro e w5 ⟨rfl, rfl⟩
        clear hp hq hnm
        go_wp2_with fail
        have hcap := q3 0
        have hcap : _ = some (Value.string x.name) := hcap
        refine (contCtl_ct 53 _ EG.out (fun y => y.name.toList == x.name.toList) _ (l.take k) (!m) _ ht (fun y _ W hW => by rw [app2]; exact isSigCl_ct _ x y W _ ((hW.cell (World.block_lt_of_cell? _ _ hcap)).trans hcap) rfl) (by rw [other_any, HM.out])).mono ?_
        clear hcap
        rintro e w6 ⟨rfl, hb6⟩
        cases m with
        | false =>
          have HN : Hid (r = false) := by rw [← HR.out]; exact sig_not hlt (by rw [sigStep_eq HX.out, ← HM.out, Bool.and_false])
          go_wp2_with fail
          go_ret
          exact ⟨by rw [HN.out]; rfl, bthen (bthen hbB hb3) hb6⟩
        | true =>
          have HT : Hid ((List.range (k + 1)).all (sigStep l) = true) := all_range_snoc HA.out (by rw [sigStep_eq HX.out, HC.out, ← HM.out]; rfl)
          go_wp2_with fail
          go_roundw
          case rel => exact ⟨k + 1, by omega, by go_num, bthen (bthen hbB hb3) hb6, HT⟩
          case measure => simp [intOf]; omega
    · have HN : Hid (true = r) := by
        have e : l.length = k := by omega
        have := HA.out
        rw [← e] at this
        rw [← HR.out]; unfold sigB
        show _ = _; rw [this, decide_eq_true hlen]; rfl
      clear h3
      go_wp2_with fail
      go_ret
      exact ⟨ret_bool HN.out, hb⟩
end Go.Proofs.YtanndcclkmcfbaaDoor
