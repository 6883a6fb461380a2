/- A list that has each number below its length. -/
import Derived.Test.YthbdmcobpcoajaaGreatDoorG2
import Derived.IntWalk
import Derived.Test.YthbdmcobpcoajaaGreatDoorShelf
namespace Go.Proofs.YthbdmcobpcoajaaGreatDoor
open Go Go.RowKit Go.BigFrame

def eachB (l : List Int) : Bool := (List.range l.length).all fun i => l.contains (i : Int)
theorem has_snoc {l : List Int} {k : Nat} {x y : Int} (h : (l.take k).contains y = false) (hx : l[k]? = some x) (hne : ¬ x = y) : (l.take (k + 1)).contains y = false := by
  rw [take_snoc_l hx]
  simp only [List.contains_eq_mem, List.mem_append, List.mem_singleton, decide_eq_false_iff_not] at h ⊢
  rintro (h2 | h2)
  · exact h h2
  · exact hne h2.symm

set_option maxHeartbeats 1000000 in
theorem l1Has_ct (v : Value) (l : List Int) (y : Int) (r : Bool) (hr : l.contains y = r) (w : World) (h : IntsAt w v l) : Calls Tryz.prog 180 #[v, .int .i64 y] w fun e w' => e = .returned (.bool r) ∧ w' = w := by
  have HR : Hid (l.contains y = r) := hr
  clear hr
  obtain ⟨a, c, rfl, h1, h2, h3⟩ := h.open
  clear h
  go_enter Tryz.func180, Tryz.ntmps180
  go_wp2_with fail
  go_loop [5] (fun i => ∃ k : Nat, k ≤ l.length ∧ i = .int .i64 k ∧ Hid ((l.take k).contains y = false)) (fun i => l.length - (intOf i).toNat)
  case atStart => exact ⟨0, Nat.zero_le _, rfl, (by show _ = _; simp)⟩
  case round =>
    obtain ⟨k, hk, rfl, HA⟩ := hrel
    by_cases hlt : k < l.length
    · obtain ⟨x, hx⟩ := getElem?_of_lt hlt
      obtain ⟨_, b, o, rfl, hc⟩ := h3 k x hx
      by_cases hxy : x = y
      · have HN : Hid (r = true) := by
          show _ = _; rw [← HR.out, ← hxy]; simp only [List.contains_eq_mem, decide_eq_true_iff]; exact List.mem_of_getElem? hx
        clear h3 hx
        go_wp2_with fail
        go_ret
        exact ⟨by rw [HN.out]; rfl, rfl⟩
      · have HT : Hid ((l.take (k + 1)).contains y = false) := has_snoc HA.out hx hxy
        clear h3 hx
        go_wp2_with fail
        go_round
        case rel => exact ⟨k + 1, by omega, by go_num, HT⟩
        case measure => simp [intOf]; omega
    · have HN : Hid (r = false) := by
        have := HA.out
        rw [List.take_of_length_le (by omega)] at this
        show _ = _; rw [← HR.out, this]
      clear h3
      go_wp2_with fail
      go_ret
      exact ⟨by rw [HN.out]; rfl, rfl⟩

theorem each_snoc {l : List Int} {k : Nat} (h : ((List.range k).all fun i => l.contains (i : Int)) = true) (hs : l.contains (k : Int) = true) : ((List.range (k + 1)).all fun i => l.contains (i : Int)) = true := by
  rw [List.range_succ, List.all_append, h]; simpa using hs
set_option maxHeartbeats 1000000 in
theorem l2Each_ct (v : Value) (l : List Int) (r : Bool) (hr : eachB l = r) (w : World) (h : IntsAt w v l) : Calls Tryz.prog 103 #[v, .int .i64 l.length] w fun e w' => e = .returned (.bool r) ∧ w' = w := by
  have HR : Hid (eachB l = r) := hr
  clear hr
  obtain ⟨a, c, rfl, _, h2, _⟩ := h.open
  go_enter Tryz.func103, Tryz.ntmps103
  go_wp2_with fail
  go_loop [5] (fun i => ∃ k : Nat, k ≤ l.length ∧ i = .int .i64 k ∧ Hid (((List.range k).all fun i => l.contains (i : Int)) = true)) (fun i => l.length - (intOf i).toNat)
  case atStart => exact ⟨0, Nat.zero_le _, rfl, (by show _ = _; simp)⟩
  case round =>
    obtain ⟨k, hk, rfl, HA⟩ := hrel
    by_cases hlt : k < l.length
    · cases hc : l.contains (k : Int) with
      | false =>
        have HN : Hid (r = false) := by
          show _ = _; rw [← HR.out]; unfold eachB; rw [List.all_eq_false]; exact ⟨k, List.mem_range.2 hlt, by simp only [hc]; simp⟩
        go_wp2_with (go_at_call 180; refine (l1Has_ct _ l _ false hc _ h).mono ?_; rintro e w2 ⟨rfl, hw⟩; subst hw)
        go_ret
        exact ⟨by rw [HN.out]; rfl, rfl⟩
      | true =>
        have HT : Hid (((List.range (k + 1)).all fun i => l.contains (i : Int)) = true) := each_snoc HA.out hc
        go_wp2_with (go_at_call 180; refine (l1Has_ct _ l _ true hc _ h).mono ?_; rintro e w2 ⟨rfl, hw⟩; subst hw)
        go_round
        case rel => exact ⟨k + 1, by omega, by go_num, HT⟩
        case measure => simp [intOf]; omega
    · have HN : Hid (r = true) := by
        have := HA.out
        rw [show k = l.length by omega] at this
        show _ = _; rw [← HR.out]; exact this
      go_wp2_with fail
      go_ret
      exact ⟨by rw [HN.out]; rfl, rfl⟩
end Go.Proofs.YthbdmcobpcoajaaGreatDoor
