/- The place of a name in a list. -/
import Derived.Test.YtanndcclkmcfbaaDoorElem1
import Derived.Test.YtanndcclkmcfbaaDoorSortU
import Derived.Test.YtanndcclkmcfbaaDoorShelf
import Derived.Lib.SlicesS
namespace Go.Proofs.YtanndcclkmcfbaaDoor
open Go Go.RowKit Go.BigFrame

theorem getD_of {l : List ByteArray} {k : Nat} {x : ByteArray} (h : l[k]? = some x) : l.getD k ByteArray.empty = x := by rw [List.getD_eq_getElem?_getD, h]; rfl
theorem idx_hit {l : List ByteArray} {k : Nat} {x : ByteArray} (h : l[k]? = some x) (hne : ∀ (j : Nat) y, j < k → l[j]? = some y → y ≠ x) : Lib.idxOfS l x = k := by
  have hk := (List.getElem?_eq_some_iff.1 h).1
  have := Lib.idxOfS_hit l l.length k x hk (Nat.le_refl _) (getD_of h) (fun j hj => by
    obtain ⟨y, hy⟩ := getElem?_of_lt (show j < l.length by omega)
    rw [getD_of hy]; exact hne j y hj hy)
  rwa [List.take_length] at this
theorem idx_miss {l : List ByteArray} {x : ByteArray} (hne : ∀ (j : Nat) y, j < l.length → l[j]? = some y → y ≠ x) : Lib.idxOfS l x = -1 := by
  have := Lib.idxOfS_miss l l.length x (fun j hj => by
    obtain ⟨y, hy⟩ := getElem?_of_lt hj
    rw [getD_of hy]; exact hne j y hj hy)
  rwa [List.take_length] at this
theorem idx_bd (l : List ByteArray) (x : ByteArray) : -1 ≤ Lib.idxOfS l x ∧ Lib.idxOfS l x < (l.length : Int) := by
  by_cases h : ∃ k : Nat, l[k]? = some x
  · have hex : ∃ k : Nat, l[k]? = some x ∧ ∀ (j : Nat) y, j < k → l[j]? = some y → y ≠ x := by
      obtain ⟨k, hk⟩ := h
      induction k using Nat.strongRecOn with
      | _ k ih =>
        by_cases h2 : ∃ j : Nat, j < k ∧ l[j]? = some x
        · obtain ⟨j, hj, hx⟩ := h2; exact ih j hj hx
        · exact ⟨k, hk, fun j y hj hy e => h2 ⟨j, hj, by rw [← e]; exact hy⟩⟩
    obtain ⟨k, hk, hne⟩ := hex
    have hlt := (List.getElem?_eq_some_iff.1 hk).1
    rw [idx_hit hk hne]; omega
  · rw [idx_miss (fun j y _ hy e => h ⟨j, by rw [← e]; exact hy⟩)]; omega
theorem idx_get {l : List ByteArray} {x : ByteArray} (h : x ∈ l) : ∃ k : Nat, Lib.idxOfS l x = k ∧ l[k]? = some x := by
  obtain ⟨k, hk⟩ := List.mem_iff_getElem?.1 h
  induction k using Nat.strongRecOn with
  | _ k ih =>
    by_cases h2 : ∃ j : Nat, j < k ∧ l[j]? = some x
    · obtain ⟨j, hj, hx⟩ := h2; exact ih j hj hx
    · exact ⟨k, idx_hit hk (fun j y hj hy e => h2 ⟨j, hj, by rw [← e]; exact hy⟩), hk⟩

theorem sIndex_ct (v : Value) (l : List ByteArray) (x : ByteArray) (w : World) (h : StrsAt w v l) : Calls Tryd.prog 48 #[v, .string x] w fun e w' => e = .returned (.int .i64 (Lib.idxOfS l x)) ∧ w' = w := by
  obtain ⟨a, c, rfl, _, hl, h3⟩ := h.open
  cases hl0 : l with
  | nil => exact Tryd.slices_Index_string_empty a c x w
  | cons s l' =>
    rw [← hl0]
    obtain ⟨_, b, o, rfl, _⟩ := h3 0 s (by rw [hl0]; rfl)
    refine (Tryd.slices_Index_string b o l.length c l x w (Nat.le_refl _) (by omega) (fun j hj => ?_)).mono ?_
    · obtain ⟨y, hy⟩ := getElem?_of_lt hj
      obtain ⟨_, b', o', e', hc⟩ := h3 j y hy
      obtain ⟨rfl, rfl⟩ : b = b' ∧ o = o' := by simpa using e'
      rw [hc, getD_of hy]
    · rintro e w' ⟨rfl, rfl⟩
      rw [List.take_length]; exact ⟨rfl, rfl⟩

set_option maxHeartbeats 1000000 in
theorem l2At_ct (v : Value) (l : List ByteArray) (y : ByteArray) (w : World) (h : StrsAt w v l) : Calls Tryd.prog 41 #[v, .string y] w fun e w' => e = .returned (.int .i64 (Lib.idxOfS l y)) ∧ w' = w := by
  obtain ⟨a, c, rfl, h1, h2, h3⟩ := h.open
  clear h
  go_enter Tryd.func41, Tryd.ntmps41
  go_wp2_with fail
  go_loop [5] (fun i => ∃ k : Nat, k ≤ l.length ∧ i = .int .i64 k ∧ Hid (∀ (j : Nat) z, j < k → l[j]? = some z → z ≠ y)) (fun i => l.length - (intOf i).toNat)
  case atStart => exact ⟨0, Nat.zero_le _, rfl, fun j z hj => absurd hj (Nat.not_lt_zero _)⟩
  case round =>
    obtain ⟨k, hk, rfl, HA⟩ := hrel
    by_cases hlt : k < l.length
    · obtain ⟨x, hx⟩ := getElem?_of_lt hlt
      obtain ⟨_, b, o, rfl, hc⟩ := h3 k x hx
      by_cases hxy : x = y
      · have HN : Hid (Lib.idxOfS l y = k) := by show _ = _; subst hxy; exact idx_hit hx HA.out
        have hq : (x.toList == y.toList) = true := by rw [hxy]; simp
        clear h3 hx HA hxy
        go_wp2_with fail
        go_ret
        exact ⟨by rw [HN.out]; rfl, rfl⟩
      · have HT : Hid (∀ (j : Nat) z, j < k + 1 → l[j]? = some z → z ≠ y) := fun j z hj hz => by
          by_cases e : j = k
          · subst e; rw [hx] at hz; obtain rfl := Option.some.inj hz; exact hxy
          · exact HA.out j z (by omega) hz
        have hq : (x.toList == y.toList) = false := by rw [beq_data]; exact decide_eq_false hxy
        clear h3 hx HA hxy
        go_wp2_with fail
        go_round
        case rel => exact ⟨k + 1, by omega, by go_num, HT⟩
        case measure => simp [intOf]; omega
    · have HN : Hid (Lib.idxOfS l y = -1) := idx_miss (fun j z hj hz => HA.out j z (by omega) hz)
      clear h3 HA
      go_wp2_with fail
      go_ret
      exact ⟨by rw [HN.out]; rfl, rfl⟩
end Go.Proofs.YtanndcclkmcfbaaDoor
