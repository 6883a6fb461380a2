/- Lists of names: ascending, not too many. -/
import Derived.Test.YtjkebiodabheiaaDoorNames
namespace Go.Proofs.YtjkebiodabheiaaDoor
open Go Go.RowKit Go.BigFrame

def stepB (l : List ByteArray) (k : Nat) : Bool :=
  match l[k]? with
  | some s => nameB s && (match k with | 0 => true | j + 1 => match l[j]? with | some p => Op.bytesLess p.toList s.toList | none => true)
  | none => true
def namesB (l : List ByteArray) : Bool := (List.range l.length).all (stepB l) && decide (l.length ≤ 16)
theorem step_0 {l : List ByteArray} {s : ByteArray} (h : l[0]? = some s) : stepB l 0 = nameB s := by unfold stepB; simp [h]
theorem step_s {l : List ByteArray} {k : Nat} {s p : ByteArray} (h : l[k + 1]? = some s) (h' : l[k]? = some p) : stepB l (k + 1) = (nameB s && Op.bytesLess p.toList s.toList) := by unfold stepB; simp [h, h']
theorem names_not {l : List ByteArray} {k : Nat} (h : k < l.length) (hs : stepB l k = false) : namesB l = false := by
  unfold namesB
  rw [Bool.and_eq_false_iff]; left
  rw [List.all_eq_false]
  exact ⟨k, List.mem_range.2 h, by simp [hs]⟩
theorem range_snoc {l : List ByteArray} {k : Nat} (h : (List.range k).all (stepB l) = true) (hs : stepB l k = true) : (List.range (k + 1)).all (stepB l) = true := by
  rw [List.range_succ, List.all_append, h]; simp [hs]
theorem less_tri : ∀ x y : List UInt8, Op.bytesLess x y = false → Op.bytesLess y x = true ∨ (Op.bytesLess y x = false ∧ (y == x) = true)
  | [], [], _ => .inr ⟨rfl, rfl⟩
  | [], _ :: _, h => by simp [Op.bytesLess] at h
  | _ :: _, [], _ => .inl rfl
  | a :: x, b :: y, h => by
    simp only [Op.bytesLess, Bool.or_eq_false_iff, decide_eq_false_iff_not] at h
    obtain ⟨h1, h2⟩ := h
    by_cases hab : b < a
    · left; simp [Op.bytesLess, hab]
    · have e : a = b := by
        apply UInt8.toNat_inj.1
        have h1' : ¬ a.toNat < b.toNat := h1
        have h2' : ¬ b.toNat < a.toNat := hab
        omega
      subst e
      have h3 : Op.bytesLess x y = false := by simpa using h2
      rcases less_tri x y h3 with h4 | ⟨h4, h5⟩
      · left; simp [Op.bytesLess, h4]
      · right
        refine ⟨by simp [Op.bytesLess, h4, hab], ?_⟩
        simpa using h5
theorem less_asym : ∀ x y : List UInt8, Op.bytesLess x y = true → Op.bytesLess y x = false ∧ (y == x) = false
  | [], [], h => by simp [Op.bytesLess] at h
  | [], _ :: _, _ => ⟨rfl, rfl⟩
  | _ :: _, [], h => by simp [Op.bytesLess] at h
  | a :: x, b :: y, h => by
    simp only [Op.bytesLess, Bool.or_eq_true, decide_eq_true_eq, Bool.and_eq_true, beq_iff_eq] at h
    rcases h with h | ⟨rfl, h⟩
    · have h1 : a.toNat < b.toNat := h
      have h2 : ¬ b < a := by intro h3; have h3 : b.toNat < a.toNat := h3; omega
      have h4 : ¬ b = a := by rintro rfl; omega
      exact ⟨by simp [Op.bytesLess, h2, h4], by simp [h4]⟩
    · obtain ⟨h3, h4⟩ := less_asym x y h
      have h5 : ¬ a < a := by intro h5; have h5 : a.toNat < a.toNat := h5; omega
      exact ⟨by simp [Op.bytesLess, h3, h5], by simpa using h4⟩

set_option maxHeartbeats 1000000 in
theorem l2Names_ct (v : Value) (l : List ByteArray) (r : Bool) (w : World) (h : StrsAt w v l) (hr : namesB l = r) : Calls Tryd.prog 91 #[v] w fun e w' => e = .returned (.bool r) ∧ Below w.heap.size w w' := by
  have HR : Hid (namesB l = r) := hr
  clear hr
  obtain ⟨a, c, rfl, h1, h2, h3⟩ := h.open
  clear h
  go_enter Tryd.func91, Tryd.ntmps91
  go_wp2_with fail
  go_loopw [3] (fun i W => ∃ k : Nat, k ≤ l.length ∧ i = .int .i64 k ∧ Below w.heap.size w W ∧ Hid ((List.range k).all (stepB l) = true)) (fun i _ => l.length - (intOf i).toNat)
  case atStart => exact ⟨0, Nat.zero_le _, rfl, Below.refl _ _, rfl⟩
  case round =>
    obtain ⟨k, hk, rfl, hb, HA⟩ := hrel
    by_cases hlt : k < l.length
    · obtain ⟨s, hs⟩ := getElem?_of_lt hlt
      obtain ⟨hsz, b, o, rfl, hc⟩ := h3 k s hs
      have hc := (hb.cell (World.block_lt_of_cell? w _ hc)).trans hc
      cases k with
      | zero =>
        have hc : wr.cell? ⟨b, o, none⟩ = some (.string s) := by simpa using hc
        cases hnm : nameB s with
        | false =>
          have HN : Hid (r = false) := by rw [← HR.out]; exact names_not hlt (by rw [step_0 hs, hnm])
          clear h3
          go_wp2_with fail
          refine wp_region_gr (by kernel_rfl) (by kernel_rfl) ?_
          have g := fun y => gr_cell (w := wr) hc y
          skip
          repeat (go_big_quiet_step ((go_at_call 117; exact Calls.gr_same (l2Name_ct s hsz false hnm _))))
          refine wpQuiet_nil ?_
          intro w2 hb2
          have hb := bthen hb hb2
          go_wp2_with fail
          go_ret
          exact ⟨by rw [HN.out]; rfl, hb⟩

        | true =>
          have HT : Hid ((List.range 1).all (stepB l) = true) := range_snoc HA.out (by rw [step_0 hs, hnm])
          clear h3
          go_wp2_with fail
          refine wp_region_gr (by kernel_rfl) (by kernel_rfl) ?_
          have g := fun y => gr_cell (w := wr) hc y
          skip
          repeat (go_big_quiet_step ((go_at_call 117; exact Calls.gr_same (l2Name_ct s hsz true hnm _))))
          refine wpQuiet_nil ?_
          intro w2 hb2
          have hb := bthen hb hb2
          go_wp2_with fail
          go_roundw
          case rel => exact ⟨1, by omega, by go_num, hb, HT⟩
          case measure => simp [intOf]; omega

      | succ k =>
        obtain ⟨p, hp0⟩ := getElem?_of_lt (show k < l.length by omega)
        obtain ⟨hpz, b', o', he, hp⟩ := h3 k p hp0
        obtain ⟨rfl, rfl⟩ : b = b' ∧ o = o' := by simpa using he
        clear he
        have hp := (hb.cell (World.block_lt_of_cell? w _ hp)).trans hp
        cases hnm : nameB s with
        | false =>
          have HN : Hid (r = false) := by rw [← HR.out]; exact names_not hlt (by rw [step_s hs hp0, hnm]; rfl)
          clear h3
          go_wp2_with fail
          refine wp_region_gr (by kernel_rfl) (by kernel_rfl) ?_
          have g := fun y => gr_cell (w := wr) hc y
          have g2 := fun y => gr_cell (w := wr) hp y
          repeat (go_big_quiet_step ((go_at_call 117; exact Calls.gr_same (l2Name_ct s hsz false hnm _))))
          refine wpQuiet_nil ?_
          intro w2 hb2
          have hb := bthen hb hb2
          go_wp2_with fail
          go_ret
          exact ⟨by rw [HN.out]; rfl, hb⟩

        | true =>
          cases hup : Op.bytesLess p.toList s.toList with
          | true =>
            have HT : Hid ((List.range (k + 1 + 1)).all (stepB l) = true) := range_snoc HA.out (by rw [step_s hs hp0, hnm, hup]; rfl)
            obtain ⟨hq1, hq2⟩ := less_asym _ _ hup
            clear h3
            go_wp2_with fail
            refine wp_region_gr (by kernel_rfl) (by kernel_rfl) ?_
            have g := fun y => gr_cell (w := wr) hc y
            have g2 := fun y => gr_cell (w := wr) hp y
            repeat (go_big_quiet_step ((go_at_call 117; exact Calls.gr_same (l2Name_ct s hsz true hnm _))))
            refine wpQuiet_nil ?_
            intro w2 hb2
            have hb := bthen hb hb2
            go_wp2_with fail
            go_roundw
            case rel => exact ⟨k + 1 + 1, by omega, by go_num, hb, HT⟩
            case measure => simp [intOf]; omega

          | false =>
            have HN : Hid (r = false) := by rw [← HR.out]; exact names_not hlt (by rw [step_s hs hp0, hnm, hup]; rfl)
            clear h3
            rcases less_tri _ _ hup with hq1 | ⟨hq1, hq2⟩
            · skip
              go_wp2_with fail
              refine wp_region_gr (by kernel_rfl) (by kernel_rfl) ?_
              have g := fun y => gr_cell (w := wr) hc y
              have g2 := fun y => gr_cell (w := wr) hp y
              repeat (go_big_quiet_step ((go_at_call 117; exact Calls.gr_same (l2Name_ct s hsz true hnm _))))
              refine wpQuiet_nil ?_
              intro w2 hb2
              have hb := bthen hb hb2
              go_wp2_with fail
              go_ret
              exact ⟨by rw [HN.out]; rfl, hb⟩

            · skip
              go_wp2_with fail
              refine wp_region_gr (by kernel_rfl) (by kernel_rfl) ?_
              have g := fun y => gr_cell (w := wr) hc y
              have g2 := fun y => gr_cell (w := wr) hp y
              repeat (go_big_quiet_step ((go_at_call 117; exact Calls.gr_same (l2Name_ct s hsz true hnm _))))
              refine wpQuiet_nil ?_
              intro w2 hb2
              have hb := bthen hb hb2
              go_wp2_with fail
              go_ret
              exact ⟨by rw [HN.out]; rfl, hb⟩

    · have HN : Hid (r = decide (l.length ≤ 16)) := by
        rw [← HR.out]; unfold namesB
        have e : l.length = k := by omega
        have := HA.out
        rw [← e] at this
        show _ = _; rw [this, Bool.true_and]
      clear h3
      go_wp2_with fail
      go_ret
      exact ⟨ret_bool (by rw [HN.out]; simp; try omega), hb⟩

set_option maxHeartbeats 1000000 in
theorem areNames_ct (v : Value) (l : List ByteArray) (r : Bool) (w : World) (h : StrsAt w v l) (hr : namesB l = r) : Calls Tryd.prog 80 #[v] w fun e w' => e = .returned (.bool r) ∧ Below w.heap.size w w' := by
  have HR : Hid (namesB l = r) := hr
  clear hr
  obtain ⟨a, c, rfl, h1, h2, h3⟩ := h.open
  clear h
  go_enter Tryd.func80, Tryd.ntmps80
  go_wp2_with fail
  go_loopw [7] (fun i W => ∃ k : Nat, k ≤ l.length ∧ i = .int .i64 k ∧ Below w.heap.size w W ∧ Hid ((List.range k).all (stepB l) = true)) (fun i _ => l.length - (intOf i).toNat)
  case atStart => exact ⟨0, Nat.zero_le _, rfl, Below.refl _ _, rfl⟩
  case round =>
    obtain ⟨k, hk, rfl, hb, HA⟩ := hrel
    by_cases hlt : k < l.length
    · obtain ⟨s, hs⟩ := getElem?_of_lt hlt
      obtain ⟨hsz, b, o, rfl, hc⟩ := h3 k s hs
      have hc := (hb.cell (World.block_lt_of_cell? w _ hc)).trans hc
      cases k with
      | zero =>
        have hc : wr.cell? ⟨b, o, none⟩ = some (.string s) := by simpa using hc
        cases hnm : nameB s with
        | false =>
          have HN : Hid (r = false) := by rw [← HR.out]; exact names_not hlt (by rw [step_0 hs, hnm])
          clear h3
          go_wp2_with (go_at_call 83; refine (isName_ct s hsz false hnm _).mono ?_; rintro e w2 ⟨rfl, hb2⟩)
          have hb := bthen hb hb2
          go_ret
          exact ⟨by rw [HN.out]; rfl, hb⟩

        | true =>
          have HT : Hid ((List.range 1).all (stepB l) = true) := range_snoc HA.out (by rw [step_0 hs, hnm])
          clear h3
          go_wp2_with (go_at_call 83; refine (isName_ct s hsz true hnm _).mono ?_; rintro e w2 ⟨rfl, hb2⟩)
          have hb := bthen hb hb2
          go_roundw
          case rel => exact ⟨1, by omega, by go_num, hb, HT⟩
          case measure => simp [intOf]; omega

      | succ k =>
        obtain ⟨p, hp0⟩ := getElem?_of_lt (show k < l.length by omega)
        obtain ⟨hpz, b', o', he, hp⟩ := h3 k p hp0
        obtain ⟨rfl, rfl⟩ : b = b' ∧ o = o' := by simpa using he
        clear he
        have hp := (hb.cell (World.block_lt_of_cell? w _ hp)).trans hp
        cases hnm : nameB s with
        | false =>
          have HN : Hid (r = false) := by rw [← HR.out]; exact names_not hlt (by rw [step_s hs hp0, hnm]; rfl)
          clear h3
          go_wp2_with (go_at_call 83; refine (isName_ct s hsz false hnm _).mono ?_; rintro e w2 ⟨rfl, hb2⟩; have hp2 := (hb2.cell (World.block_lt_of_cell? _ _ hp)).trans hp)
          have hb := bthen hb hb2
          go_ret
          exact ⟨by rw [HN.out]; rfl, hb⟩

        | true =>
          cases hup : Op.bytesLess p.toList s.toList with
          | true =>
            have HT : Hid ((List.range (k + 1 + 1)).all (stepB l) = true) := range_snoc HA.out (by rw [step_s hs hp0, hnm, hup]; rfl)
            obtain ⟨hq1, hq2⟩ := less_asym _ _ hup
            clear h3
            go_wp2_with (go_at_call 83; refine (isName_ct s hsz true hnm _).mono ?_; rintro e w2 ⟨rfl, hb2⟩; have hp2 := (hb2.cell (World.block_lt_of_cell? _ _ hp)).trans hp)
            have hb := bthen hb hb2
            go_roundw
            case rel => exact ⟨k + 1 + 1, by omega, by go_num, hb, HT⟩
            case measure => simp [intOf]; omega

          | false =>
            have HN : Hid (r = false) := by rw [← HR.out]; exact names_not hlt (by rw [step_s hs hp0, hnm, hup]; rfl)
            clear h3
            rcases less_tri _ _ hup with hq1 | ⟨hq1, hq2⟩
            · skip
              go_wp2_with (go_at_call 83; refine (isName_ct s hsz true hnm _).mono ?_; rintro e w2 ⟨rfl, hb2⟩; have hp2 := (hb2.cell (World.block_lt_of_cell? _ _ hp)).trans hp)
              have hb := bthen hb hb2
              go_ret
              exact ⟨by rw [HN.out]; rfl, hb⟩

            · skip
              go_wp2_with (go_at_call 83; refine (isName_ct s hsz true hnm _).mono ?_; rintro e w2 ⟨rfl, hb2⟩; have hp2 := (hb2.cell (World.block_lt_of_cell? _ _ hp)).trans hp)
              have hb := bthen hb hb2
              go_ret
              exact ⟨by rw [HN.out]; rfl, hb⟩

    · have HN : Hid (r = decide (l.length ≤ 16)) := by
        rw [← HR.out]; unfold namesB
        have e : l.length = k := by omega
        have := HA.out
        rw [← e] at this
        show _ = _; rw [this, Bool.true_and]
      clear h3
      go_wp2_with fail
      go_ret
      exact ⟨ret_bool (by rw [HN.out]; simp; try omega), hb⟩

end Go.Proofs.YtjkebiodabheiaaDoor
