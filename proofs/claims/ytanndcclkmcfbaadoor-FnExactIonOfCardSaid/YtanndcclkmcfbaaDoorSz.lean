/- The laws' measures: how much an argument holds. -/
import Derived.Test.YtanndcclkmcfbaaDoorProg
import Derived.Test.YtanndcclkmcfbaaDoorData
namespace Go.Proofs.YtanndcclkmcfbaaDoor
open Go Go.RowKit Go.BigFrame

theorem left_yes {n : Int} {t : Nat} (h : (t : Int) ≤ n) : left n t = n - t := by unfold left; rw [if_neg (by omega)]
theorem left_no {n : Int} {t : Nat} (h : n < (t : Int)) : left n t = -1 := by unfold left; rw [if_pos h]


set_option maxHeartbeats 400000 in
theorem szControl_ct (s : ByteArray) (p k : Int) (n : Int) (w : World) (r : Int) (hr : Hid (left n s.size = r)) (hs : s.size ≤ 9223372036854775807) (hn : 0 ≤ n) (hn1 : n ≤ 1048576) :
    Calls Tryd.prog 20 #[.agg #[.string s, .int .i64 p, .int .i64 k], .int .i64 n] w fun e w' => e = .returned (.int .i64 r) ∧ Below w.heap.size w w' := by
  by_cases hlt : n < (s.size : Int)
  · have HE : Hid (r = -1) := by have := hr.out; rw [left_no hlt] at this; exact this.symm
    clear hr
    go_enter Tryd.func20, Tryd.ntmps20
    go_wp2
    go_ret
    exact ⟨ret_int HE.out.symm, (Below.refl _ _).alloc (Nat.le_refl _) _⟩
  · have HE : Hid (r = n - s.size) := by have := hr.out; rw [left_yes (by omega)] at this; exact this.symm
    clear hr
    go_enter Tryd.func20, Tryd.ntmps20
    go_wp2
    go_ret
    exact ⟨ret_int HE.out.symm, (Below.refl _ _).alloc (Nat.le_refl _) _⟩



set_option maxHeartbeats 1000000 in
theorem szStringS_ct (v : Value) (l : List ByteArray) (n : Int) (w : World) (r : Int) (hr : Hid (left n (totS l) = r)) (h : StrsM 9223372036854775807 w v l) (hn : 0 ≤ n) (hn1 : n ≤ 1048576) :
    Calls Tryd.prog 6 #[v, .int .i64 n] w fun e w' => e = .returned (.int .i64 r) ∧ Below w.heap.size w w' := by
  obtain ⟨a, c, rfl, h1, h2, h3⟩ := h.open
  by_cases hlt : n < (l.length : Int)
  · have HE : Hid (r = -1) := by have := hr.out; rw [left_no (by unfold totS; omega)] at this; exact this.symm
    clear h h3 hr
    go_enter Tryd.func6, Tryd.ntmps6
    go_wp2
    go_ret
    exact ⟨ret_int HE.out.symm, Below.refl _ _⟩
  · go_enter Tryd.func6, Tryd.ntmps6
    go_wp2
    go_loopw [1, 5] (fun m i wr => ∃ k : Nat, k ≤ l.length ∧ i = .int .i64 k ∧ ∃ q : Int, 0 ≤ q ∧ q ≤ 1048576 ∧ m = .int .i64 q ∧ Hid (q = n - l.length - sumOf ByteArray.size (l.take k)) ∧ Below w.heap.size w wr) (fun _ i _ => l.length - (intOf i).toNat)
    case atStart => exact ⟨0, Nat.zero_le _, rfl, n - l.length, by omega, by omega, by go_num, (by show _ = _; simp [sumOf]), Below.refl _ _⟩
    case round =>
      obtain ⟨k, hk, rfl, q, hq0, hq1, rfl, HQ, hb⟩ := hrel
      by_cases hkl : k < l.length
      · obtain ⟨x, hx⟩ := getElem?_of_lt hkl
        have HT : Hid (sumOf ByteArray.size (l.take (k + 1)) = sumOf ByteArray.size (l.take k) + x.size) := sumOf_take ByteArray.size hx
        have HL : Hid (sumOf ByteArray.size (l.take (k + 1)) ≤ sumOf ByteArray.size l) := sumOf_take_le _ _ _
        obtain ⟨hxs, b, o, rfl, hc⟩ := h3 k x hx
        have hc := (hb.cell (World.block_lt_of_cell? w _ hc)).trans hc
        clear h3 h hx
        by_cases hneg : q < ((x.size : Nat) : Int)
        · have HE : Hid (r = -1) := by have := hr.out; rw [left_no (by have := HQ.out; have := HT.out; have := HL.out; unfold totS; omega)] at this; exact this.symm
          have HN : Hid (left q x.size = -1) := left_no hneg
          clear hr
          go_wp2
          go_ret
          exact ⟨ret_int HE.out.symm, hb⟩
        · have HN : Hid (left q x.size = q - ((x.size : Nat) : Int)) := left_yes (by omega)
          go_wp2
          go_roundw
          case rel => exact ⟨k + 1, by omega, by go_num, q - ((x.size : Nat) : Int), by omega, by omega, by go_num, (by show _ = _; have := HQ.out; have := HT.out; omega), hb⟩
          case measure => simp [intOf]; omega
      · have HE : Hid (r = q) := by
          have h4 : l.take k = l := List.take_of_length_le (by omega)
          have h5 := HQ.out
          rw [h4] at h5
          have h6 := hr.out
          rw [left_yes (by unfold totS; omega)] at h6
          unfold totS at h6
          show _ = _
          omega
        clear h3 h HQ hr
        go_wp2
        go_ret
        exact ⟨ret_int HE.out.symm, hb⟩

set_option maxHeartbeats 1000000 in
theorem szControlS_ct (v : Value) (l : List Ctl) (n : Int) (w : World) (r : Int) (hr : Hid (left n (totC l) = r)) (h : CtlsM 9223372036854775807 w v l) (hn : 0 ≤ n) (hn1 : n ≤ 1048576) :
    Calls Tryd.prog 5 #[v, .int .i64 n] w fun e w' => e = .returned (.int .i64 r) ∧ Below w.heap.size w w' := by
  obtain ⟨a, c, rfl, h1, h2, h3⟩ := h.open
  by_cases hlt : n < (l.length : Int)
  · have HE : Hid (r = -1) := by have := hr.out; rw [left_no (by unfold totC; omega)] at this; exact this.symm
    clear h h3 hr
    go_enter Tryd.func5, Tryd.ntmps5
    go_wp2
    go_ret
    exact ⟨ret_int HE.out.symm, Below.refl _ _⟩
  · go_enter Tryd.func5, Tryd.ntmps5
    go_wp2
    go_loopw [1, 5] (fun m i wr => ∃ k : Nat, k ≤ l.length ∧ i = .int .i64 k ∧ ∃ q : Int, 0 ≤ q ∧ q ≤ 1048576 ∧ m = .int .i64 q ∧ Hid (q = n - l.length - sumOf (fun c : Ctl => c.name.size) (l.take k)) ∧ Below w.heap.size w wr) (fun _ i _ => l.length - (intOf i).toNat)
    case atStart => exact ⟨0, Nat.zero_le _, rfl, n - l.length, by omega, by omega, by go_num, (by show _ = _; simp [sumOf]), Below.refl _ _⟩
    case round =>
      obtain ⟨k, hk, rfl, q, hq0, hq1, rfl, HQ, hb⟩ := hrel
      by_cases hkl : k < l.length
      · obtain ⟨x, hx⟩ := getElem?_of_lt hkl
        have HT : Hid (sumOf (fun c : Ctl => c.name.size) (l.take (k + 1)) = sumOf (fun c : Ctl => c.name.size) (l.take k) + x.name.size) := sumOf_take (fun c : Ctl => c.name.size) hx
        have HL : Hid (sumOf (fun c : Ctl => c.name.size) (l.take (k + 1)) ≤ sumOf (fun c : Ctl => c.name.size) l) := sumOf_take_le _ _ _
        obtain ⟨hxs, _, _, b, o, rfl, hc1, hc2, hc3⟩ := h3 k x hx
        have hc1 := (hb.cell (World.block_lt_of_cell? w _ hc1)).trans hc1
        have hc2 := (hb.cell (World.block_lt_of_cell? w _ hc2)).trans hc2
        have hc3 := (hb.cell (World.block_lt_of_cell? w _ hc3)).trans hc3
        clear h3 h hx
        by_cases hneg : q < ((x.name.size : Nat) : Int)
        · have HE : Hid (r = -1) := by have := hr.out; rw [left_no (by have := HQ.out; have := HT.out; have := HL.out; unfold totC; omega)] at this; exact this.symm
          have HN : Hid (left q x.name.size = -1) := left_no hneg
          clear hr
          go_wp2_with (go_at_call 20; refine (szControl_ct _ _ _ q _ (-1) HN hxs hq0 hq1).mono ?_; rintro e w2 ⟨rfl, hb2⟩)
          go_ret
          exact ⟨ret_int HE.out.symm, hb.trans (hb2.mono hb.size)⟩
        · have HN : Hid (left q x.name.size = q - ((x.name.size : Nat) : Int)) := left_yes (by omega)
          go_wp2_with (go_at_call 20; refine (szControl_ct _ _ _ q _ (q - ((x.name.size : Nat) : Int)) HN hxs hq0 hq1).mono ?_; rintro e w2 ⟨rfl, hb2⟩)
          go_roundw
          case rel => exact ⟨k + 1, by omega, by go_num, q - ((x.name.size : Nat) : Int), by omega, by omega, by go_num, (by show _ = _; have := HQ.out; have := HT.out; omega), hb.trans (hb2.mono hb.size)⟩
          case measure => simp [intOf]; omega
      · have HE : Hid (r = q) := by
          have h4 : l.take k = l := List.take_of_length_le (by omega)
          have h5 := HQ.out
          rw [h4] at h5
          have h6 := hr.out
          rw [left_yes (by unfold totC; omega)] at h6
          unfold totC at h6
          show _ = _
          omega
        clear h3 h HQ hr
        go_wp2
        go_ret
        exact ⟨ret_int HE.out.symm, hb⟩




end Go.Proofs.YtanndcclkmcfbaaDoor
