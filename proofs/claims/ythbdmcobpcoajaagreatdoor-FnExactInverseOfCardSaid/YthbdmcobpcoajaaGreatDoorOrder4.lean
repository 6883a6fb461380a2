/- impl.isOrder. -/
import Derived.Test.YthbdmcobpcoajaaGreatDoorOrder3
namespace Go.Proofs.YthbdmcobpcoajaaGreatDoor
open Go Go.RowKit Go.BigFrame

theorem idxL_length (n : Nat) : (idxL n).length = n := by simp [idxL]
theorem idxL_snoc (n : Nat) : idxL (n + 1) = idxL n ++ [(n : Int)] := by unfold idxL; rw [List.range_succ, List.map_append]; rfl
theorem idxL_get {n k : Nat} (h : k < n) : (idxL n)[k]? = some (k : Int) := by unfold idxL; rw [List.getElem?_map, List.getElem?_range h]; rfl
theorem sortL_length (l : List Int) : (sortL l).length = l.length := by unfold sortL; simp
theorem each_bd {l : List Int} (h : eachB l = true) (h4 : l.length ≤ 4) : ∀ x ∈ l, -1000 ≤ x ∧ x ≤ 1000 := by
  intro x hx
  have hp : (sortL l).Perm l := List.mergeSort_perm _ _
  have h1 := hp.mem_iff.2 hx
  rw [(each_iff l).1 h] at h1
  unfold idxL at h1
  obtain ⟨i, hi, rfl⟩ := List.mem_map.1 h1
  have := List.mem_range.1 hi
  omega

set_option maxHeartbeats 1000000 in
theorem isOrderN_ct (n : Int) (v : Value) (l : List Int) (r : Bool) (hr : (eachB l && decide ((l.length : Int) = n)) = r) (w : World) (h : IntsAt w v l) (h4 : l.length ≤ 2000000) : Calls Tryz.prog 106 #[.int .i64 n, v] w fun e w' => e = .returned (.bool r) ∧ Below w.heap.size w w' := by
  have HR : Hid ((eachB l && decide ((l.length : Int) = n)) = r) := hr
  clear hr
  obtain ⟨a, c, rfl, _, _, _⟩ := h.open
  go_enter Tryz.func106, Tryz.ntmps106
  go_wp2_with fail
  refine (intsClone_ct _ l _ h h4).mono ?_
  rintro e w1 ⟨u, rfl, hsrc, hb1⟩
  go_wp2_with fail
  refine (intsSort_ct w.heap.size u l _ hsrc h4 hb1.size).mono ?_
  rintro e w2 ⟨rfl, hb2, p, cap, rfl, hcell⟩
  have hb := hb1.trans hb2
  clear hsrc hb1 hb2
  go_wp2_with fail
  go_loop [14] (fun i => ∃ k : Nat, k ≤ l.length ∧ i = .int .i64 k ∧ Hid ((sortL l).take k = idxL k)) (fun i => l.length - (intOf i).toNat)
  case atStart => exact ⟨0, Nat.zero_le _, rfl, (by show _ = _; simp [idxL])⟩
  case round =>
    obtain ⟨k, hk, rfl, HA⟩ := hrel
    by_cases hlt : k < l.length
    · obtain ⟨x, hx⟩ := getElem?_of_lt (show k < (sortL l).length by rw [sortL_length]; exact hlt)
      obtain ⟨g, rfl, hc⟩ := hcell k x hx
      by_cases hxk : x = (k : Int)
      · have HT : Hid ((sortL l).take (k + 1) = idxL (k + 1)) := by show _ = _; rw [take_snoc_l hx, HA.out, idxL_snoc, hxk]
        clear hcell hx
        go_wp2_with fail
        go_round
        case rel => exact ⟨k + 1, by omega, by go_num, HT⟩
        case measure => simp [intOf]; omega
      · have HN : Hid (r = false) := by
          show _ = _
          rw [← HR.out]
          cases he : eachB l with
          | false => rfl
          | true =>
            exfalso
            have h1 := (each_iff l).1 he
            rw [h1, idxL_get hlt] at hx
            exact hxk (Option.some.inj hx).symm
        clear hcell hx
        go_wp2_with fail
        go_ret
        exact ⟨by rw [HN.out]; rfl, hb⟩
    · have HN : Hid (decide ((l.length : Int) = n) = r) := by
        have h1 := HA.out
        rw [show k = l.length by omega, List.take_of_length_le (by rw [sortL_length]; exact Nat.le_refl _)] at h1
        show _ = _; rw [← HR.out, (each_iff l).2 h1, Bool.true_and]
      clear hcell
      go_wp2_with fail
      go_ret
      exact ⟨ret_bool (by rw [← HN.out, Bool.eq_iff_iff]; simp only [beq_iff_eq, decide_eq_true_eq]), hb⟩
theorem isOrder_ct (v : Value) (l : List Int) (r : Bool) (hr : eachB l = r) (w : World) (h : IntsAt w v l) (h4 : l.length ≤ 2000000) : Calls Tryz.prog 106 #[.int .i64 l.length, v] w fun e w' => e = .returned (.bool r) ∧ Below w.heap.size w w' :=
  isOrderN_ct l.length v l r (by simpa using hr) w h h4
end Go.Proofs.YthbdmcobpcoajaaGreatDoor
