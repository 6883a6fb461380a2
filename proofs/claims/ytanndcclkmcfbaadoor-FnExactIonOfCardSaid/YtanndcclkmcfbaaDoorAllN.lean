/- Lists of names. -/
import Derived.Test.YtanndcclkmcfbaaDoorFind
import Derived.Test.YtanndcclkmcfbaaDoorNamesL
namespace Go.Proofs.YtanndcclkmcfbaaDoor
open Go Go.RowKit Go.BigFrame

set_option maxHeartbeats 2000000 in
theorem l3AllNames_ct (v : Value) (l : List ByteArray) (r : Bool) (hr : l.all nameB = r) (w : World) (h : StrsAt w v l) : Calls Tryd.prog 39 #[v] w fun e w' => e = .returned (.bool r) ∧ w' = w := by
  have HR : Hid (l.all nameB = r) := hr
  clear hr
  obtain ⟨a, c, rfl, h1, h2, h3⟩ := h.open
  clear h
  go_enter Tryd.func39, Tryd.ntmps39
  go_wp2_with fail
  go_loop [3] (fun i => ∃ k : Nat, k ≤ l.length ∧ i = .int .i64 k ∧ Hid ((l.take k).all nameB = true)) (fun i => l.length - (intOf i).toNat)
  case atStart => exact ⟨0, Nat.zero_le _, rfl, (by show _ = _; simp)⟩
  case round =>
    obtain ⟨k, hk, rfl, HA⟩ := hrel
    by_cases hlt : k < l.length
    · obtain ⟨x, hx⟩ := getElem?_of_lt hlt
      obtain ⟨hsz, b, o, rfl, hc⟩ := h3 k x hx
      cases hn : nameB x with
      | false =>
        have HN : Hid (r = false) := by show _ = _; rw [← HR.out, List.all_eq_false]; exact ⟨x, List.mem_of_getElem? hx, by simp [hn]⟩
        clear h3 hx
        go_wp2_with fail
        refine (l2Name_ct x hsz false hn _).mono ?_
        rintro e w2 ⟨rfl, rfl⟩
        go_wp2_with fail
        go_ret
        exact ⟨by rw [HN.out]; rfl, rfl⟩
      | true =>
        have HT : Hid ((l.take (k + 1)).all nameB = true) := by show _ = _; rw [take_snoc_l hx, List.all_append, HA.out]; simp [hn]
        clear h3 hx
        go_wp2_with fail
        refine (l2Name_ct x hsz true hn _).mono ?_
        rintro e w2 ⟨rfl, rfl⟩
        go_wp2_with fail
        go_round
        case rel => exact ⟨k + 1, by omega, by go_num, HT⟩
        case measure => simp [intOf]; omega
    · have HN : Hid (r = true) := by
        have := HA.out
        rw [List.take_of_length_le (by omega)] at this
        show _ = _; rw [← HR.out, this]
      clear h3
      go_wp2_with fail
      go_ret
      exact ⟨by rw [HN.out]; rfl, rfl⟩
theorem any_not (p : ByteArray → Bool) (l : List ByteArray) : l.any (fun x => !p x) = !(l.all p) := by
  induction l with
  | nil => rfl
  | cons x l ih => simp [ih]
set_option maxHeartbeats 1000000 in
theorem singCl_ct (x : ByteArray) (hs : x.size ≤ 1073741824) (w : World) : Calls Tryd.prog 45 (#[.string x] ++ #[]) w fun e w' => e = .returned (.bool (!nameB x)) ∧ Below w.heap.size w w' := by
  rw [Array.append_empty]
  cases hn : nameB x with
  | false =>
    go_enter Tryd.func45, Tryd.ntmps45
    go_wp2_with fail
    refine (isName_ct x hs false hn _).mono ?_
    rintro e w2 ⟨rfl, hb⟩
    go_wp2_with fail
    go_ret
    exact ⟨rfl, hb⟩
  | true =>
    go_enter Tryd.func45, Tryd.ntmps45
    go_wp2_with fail
    refine (isName_ct x hs true hn _).mono ?_
    rintro e w2 ⟨rfl, hb⟩
    go_wp2_with fail
    go_ret
    exact ⟨rfl, hb⟩
end Go.Proofs.YtanndcclkmcfbaaDoor
