/- Several texts in one: Sz Eq. -/
import Derived.Test.YthgelhglfbgagaaGreatDoorProg
import Derived.Test.YthgelhglfbgagaaGreatDoorG1
set_option linter.unusedVariables false
/- The laws' measures: how much an argument holds. -/
namespace Go.Proofs.YthgelhglfbgagaaGreatDoor
open Go Go.RowKit Go.BigFrame

theorem left_yes {n : Int} {t : Nat} (h : (t : Int) ≤ n) : left n t = n - t := by unfold left; rw [if_neg (by omega)]
theorem left_no {n : Int} {t : Nat} (h : n < (t : Int)) : left n t = -1 := by unfold left; rw [if_pos h]

set_option maxHeartbeats 400000 in
theorem szIntS_ct (v : Value) (l : List Int) (n : Int) (w : World) (r : Int) (hr : Hid (left n (totI l) = r)) (h : IntsM 9223372036854775807 w v l) (hn : 0 ≤ n) (hn1 : n ≤ 1048576) :
    Calls Tryz.prog 53 #[v, .int .i64 n] w fun e w' => e = .returned (.int .i64 r) ∧ w' = w := by
  obtain ⟨a, c, rfl, h1, h2, h3⟩ := h.open
  clear h h3
  unfold totI at hr
  by_cases hlt : n < (l.length : Int)
  · have HE : Hid (r = -1) := by have := hr.out; rw [left_no hlt] at this; exact this.symm
    clear hr
    go_enter Tryz.func53, Tryz.ntmps53
    go_wp2
    go_ret
    exact ⟨ret_int HE.out.symm, rfl⟩
  · have HE : Hid (r = n - l.length) := by have := hr.out; rw [left_yes (by omega)] at this; exact this.symm
    clear hr
    go_enter Tryz.func53, Tryz.ntmps53
    go_wp2
    go_ret
    exact ⟨ret_int HE.out.symm, rfl⟩

set_option maxHeartbeats 400000 in
theorem szControl_ct (s : ByteArray) (p k : Int) (n : Int) (w : World) (r : Int) (hr : Hid (left n s.size = r)) (hs : s.size ≤ 9223372036854775807) (hn : 0 ≤ n) (hn1 : n ≤ 1048576) :
    Calls Tryz.prog 18 #[.agg #[.string s, .int .i64 p, .int .i64 k], .int .i64 n] w fun e w' => e = .returned (.int .i64 r) ∧ Below w.heap.size w w' := by
  by_cases hlt : n < (s.size : Int)
  · have HE : Hid (r = -1) := by have := hr.out; rw [left_no hlt] at this; exact this.symm
    clear hr
    go_enter Tryz.func18, Tryz.ntmps18
    go_wp2
    go_ret
    exact ⟨ret_int HE.out.symm, (Below.refl _ _).alloc (Nat.le_refl _) _⟩
  · have HE : Hid (r = n - s.size) := by have := hr.out; rw [left_yes (by omega)] at this; exact this.symm
    clear hr
    go_enter Tryz.func18, Tryz.ntmps18
    go_wp2
    go_ret
    exact ⟨ret_int HE.out.symm, (Below.refl _ _).alloc (Nat.le_refl _) _⟩

set_option maxHeartbeats 400000 in
theorem szWire_ct (s : ByteArray) (p : Int) (n : Int) (w : World) (r : Int) (hr : Hid (left n s.size = r)) (hs : s.size ≤ 9223372036854775807) (hn : 0 ≤ n) (hn1 : n ≤ 1048576) :
    Calls Tryz.prog 106 #[.agg #[.string s, .int .i64 p], .int .i64 n] w fun e w' => e = .returned (.int .i64 r) ∧ Below w.heap.size w w' := by
  by_cases hlt : n < (s.size : Int)
  · have HE : Hid (r = -1) := by have := hr.out; rw [left_no hlt] at this; exact this.symm
    clear hr
    go_enter Tryz.func106, Tryz.ntmps106
    go_wp2
    go_ret
    exact ⟨ret_int HE.out.symm, (Below.refl _ _).alloc (Nat.le_refl _) _⟩
  · have HE : Hid (r = n - s.size) := by have := hr.out; rw [left_yes (by omega)] at this; exact this.symm
    clear hr
    go_enter Tryz.func106, Tryz.ntmps106
    go_wp2
    go_ret
    exact ⟨ret_int HE.out.symm, (Below.refl _ _).alloc (Nat.le_refl _) _⟩

set_option maxHeartbeats 400000 in
theorem szNode_ct (p k : Int) (v : Value) (l : List Int) (n : Int) (w : World) (r : Int) (hr : Hid (left n l.length = r)) (hv : IntsM 9223372036854775807 w v l) (hn : 0 ≤ n) (hn1 : n ≤ 1048576) :
    Calls Tryz.prog 105 #[.agg #[.int .i64 p, .int .i64 k, v], .int .i64 n] w fun e w' => e = .returned (.int .i64 r) ∧ Below w.heap.size w w' := by
  have hlo : -1 ≤ r := by have := hr.out; unfold left at this; split at this <;> omega
  have hb0 : Below w.heap.size w (w.alloc (.cells #[.int .i64 p, .int .i64 k, v] 126)) := (Below.refl _ _).alloc (Nat.le_refl _) _
  have hv1 := hv.below hb0
  by_cases hlt : r < 0
  · have HE : Hid (r = -1) := by show _ = _; omega
    go_enter Tryz.func105, Tryz.ntmps105
    go_wp2_with (go_at_call 53; refine (szIntS_ct v l n _ r hr hv1 hn hn1).mono ?_; rintro e w2 ⟨rfl, rfl⟩)
    go_ret
    exact ⟨ret_int HE.out.symm, hb0⟩
  · go_enter Tryz.func105, Tryz.ntmps105
    go_wp2_with (go_at_call 53; refine (szIntS_ct v l n _ r hr hv1 hn hn1).mono ?_; rintro e w2 ⟨rfl, rfl⟩)
    go_ret
    exact ⟨rfl, hb0⟩

set_option maxHeartbeats 1000000 in
theorem szStringS_ct (v : Value) (l : List ByteArray) (n : Int) (w : World) (r : Int) (hr : Hid (left n (totS l) = r)) (h : StrsM 9223372036854775807 w v l) (hn : 0 ≤ n) (hn1 : n ≤ 1048576) :
    Calls Tryz.prog 54 #[v, .int .i64 n] w fun e w' => e = .returned (.int .i64 r) ∧ Below w.heap.size w w' := by
  obtain ⟨a, c, rfl, h1, h2, h3⟩ := h.open
  by_cases hlt : n < (l.length : Int)
  · have HE : Hid (r = -1) := by have := hr.out; rw [left_no (by unfold totS; omega)] at this; exact this.symm
    clear h h3 hr
    go_enter Tryz.func54, Tryz.ntmps54
    go_wp2
    go_ret
    exact ⟨ret_int HE.out.symm, Below.refl _ _⟩
  · go_enter Tryz.func54, Tryz.ntmps54
    go_wp2
    go_loopw [1, 5] (fun m i wr => ∃ k : Nat, k ≤ l.length ∧ i = .int .i64 k ∧ ∃ q : Int, 0 ≤ q ∧ q ≤ 1048576 ∧ m = .int .i64 q ∧ Hid (q = n - l.length - sumOf ByteArray.size (l.take k)) ∧ Below w.heap.size w wr) (fun _ i _ => l.length - (intOf i).toNat)
    case atStart => exact ⟨0, Nat.zero_le _, rfl, n - l.length, by omega, by omega, by go_num, (by show _ = _; simp [sumOf]), Below.refl _ _⟩
    case round =>
      obtain ⟨k, hk, rfl, q, hq0, hq1, rfl, HQ, hb⟩ := hrel
      by_cases hkl : k < l.length
      · obtain ⟨x, hx⟩ := getElem?_of_lt hkl
        have HT : Hid (sumOf ByteArray.size (l.take (k + 1)) = sumOf ByteArray.size (l.take k) + x.size) := sumOf_take ByteArray.size hx
        have HL : Hid (sumOf ByteArray.size (l.take (k + 1)) ≤ sumOf ByteArray.size l) := sumOf_take_le _ _ _
        obtain ⟨hxs, b, o, rfl, hc⟩ := h3 k x hx
        have hc := (hb.cell (World.block_lt_of_cell? w _ hc)).trans hc
        clear h3 h hx
        by_cases hneg : q < ((x.size : Nat) : Int)
        · have HE : Hid (r = -1) := by have := hr.out; rw [left_no (by have := HQ.out; have := HT.out; have := HL.out; unfold totS; omega)] at this; exact this.symm
          have HN : Hid (left q x.size = -1) := left_no hneg
          clear hr
          go_wp2
          go_ret
          exact ⟨ret_int HE.out.symm, hb⟩
        · have HN : Hid (left q x.size = q - ((x.size : Nat) : Int)) := left_yes (by omega)
          go_wp2
          go_roundw
          case rel => exact ⟨k + 1, by omega, by go_num, q - ((x.size : Nat) : Int), by omega, by omega, by go_num, (by show _ = _; have := HQ.out; have := HT.out; omega), hb⟩
          case measure => simp [intOf]; omega
      · have HE : Hid (r = q) := by
          have h4 : l.take k = l := List.take_of_length_le (by omega)
          have h5 := HQ.out
          rw [h4] at h5
          have h6 := hr.out
          rw [left_yes (by unfold totS; omega)] at h6
          unfold totS at h6
          show _ = _
          omega
        clear h3 h HQ hr
        go_wp2
        go_ret
        exact ⟨ret_int HE.out.symm, hb⟩

set_option maxHeartbeats 1000000 in
theorem szControlS_ct (v : Value) (l : List Ctl) (n : Int) (w : World) (r : Int) (hr : Hid (left n (totC l) = r)) (h : CtlsM 9223372036854775807 w v l) (hn : 0 ≤ n) (hn1 : n ≤ 1048576) :
    Calls Tryz.prog 5 #[v, .int .i64 n] w fun e w' => e = .returned (.int .i64 r) ∧ Below w.heap.size w w' := by
  obtain ⟨a, c, rfl, h1, h2, h3⟩ := h.open
  by_cases hlt : n < (l.length : Int)
  · have HE : Hid (r = -1) := by have := hr.out; rw [left_no (by unfold totC; omega)] at this; exact this.symm
    clear h h3 hr
    go_enter Tryz.func5, Tryz.ntmps5
    go_wp2
    go_ret
    exact ⟨ret_int HE.out.symm, Below.refl _ _⟩
  · go_enter Tryz.func5, Tryz.ntmps5
    go_wp2
    go_loopw [1, 5] (fun m i wr => ∃ k : Nat, k ≤ l.length ∧ i = .int .i64 k ∧ ∃ q : Int, 0 ≤ q ∧ q ≤ 1048576 ∧ m = .int .i64 q ∧ Hid (q = n - l.length - sumOf (fun c : Ctl => c.name.size) (l.take k)) ∧ Below w.heap.size w wr) (fun _ i _ => l.length - (intOf i).toNat)
    case atStart => exact ⟨0, Nat.zero_le _, rfl, n - l.length, by omega, by omega, by go_num, (by show _ = _; simp [sumOf]), Below.refl _ _⟩
    case round =>
      obtain ⟨k, hk, rfl, q, hq0, hq1, rfl, HQ, hb⟩ := hrel
      by_cases hkl : k < l.length
      · obtain ⟨x, hx⟩ := getElem?_of_lt hkl
        have HT : Hid (sumOf (fun c : Ctl => c.name.size) (l.take (k + 1)) = sumOf (fun c : Ctl => c.name.size) (l.take k) + x.name.size) := sumOf_take (fun c : Ctl => c.name.size) hx
        have HL : Hid (sumOf (fun c : Ctl => c.name.size) (l.take (k + 1)) ≤ sumOf (fun c : Ctl => c.name.size) l) := sumOf_take_le _ _ _
        obtain ⟨hxs, _, _, b, o, rfl, hc1, hc2, hc3⟩ := h3 k x hx
        have hc1 := (hb.cell (World.block_lt_of_cell? w _ hc1)).trans hc1
        have hc2 := (hb.cell (World.block_lt_of_cell? w _ hc2)).trans hc2
        have hc3 := (hb.cell (World.block_lt_of_cell? w _ hc3)).trans hc3
        clear h3 h hx
        by_cases hneg : q < ((x.name.size : Nat) : Int)
        · have HE : Hid (r = -1) := by have := hr.out; rw [left_no (by have := HQ.out; have := HT.out; have := HL.out; unfold totC; omega)] at this; exact this.symm
          have HN : Hid (left q x.name.size = -1) := left_no hneg
          clear hr
          go_wp2_with (go_at_call 18; refine (szControl_ct _ _ _ q _ (-1) HN hxs hq0 hq1).mono ?_; rintro e w2 ⟨rfl, hb2⟩)
          go_ret
          exact ⟨ret_int HE.out.symm, hb.trans (hb2.mono hb.size)⟩
        · have HN : Hid (left q x.name.size = q - ((x.name.size : Nat) : Int)) := left_yes (by omega)
          go_wp2_with (go_at_call 18; refine (szControl_ct _ _ _ q _ (q - ((x.name.size : Nat) : Int)) HN hxs hq0 hq1).mono ?_; rintro e w2 ⟨rfl, hb2⟩)
          go_roundw
          case rel => exact ⟨k + 1, by omega, by go_num, q - ((x.name.size : Nat) : Int), by omega, by omega, by go_num, (by show _ = _; have := HQ.out; have := HT.out; omega), hb.trans (hb2.mono hb.size)⟩
          case measure => simp [intOf]; omega
      · have HE : Hid (r = q) := by
          have h4 : l.take k = l := List.take_of_length_le (by omega)
          have h5 := HQ.out
          rw [h4] at h5
          have h6 := hr.out
          rw [left_yes (by unfold totC; omega)] at h6
          unfold totC at h6
          show _ = _
          omega
        clear h3 h HQ hr
        go_wp2
        go_ret
        exact ⟨ret_int HE.out.symm, hb⟩

set_option maxHeartbeats 1000000 in
theorem szWireS_ct (v : Value) (l : List Wr) (n : Int) (w : World) (r : Int) (hr : Hid (left n (totW l) = r)) (h : WrsM 9223372036854775807 w v l) (hn : 0 ≤ n) (hn1 : n ≤ 1048576) :
    Calls Tryz.prog 55 #[v, .int .i64 n] w fun e w' => e = .returned (.int .i64 r) ∧ Below w.heap.size w w' := by
  obtain ⟨a, c, rfl, h1, h2, h3⟩ := h.open
  by_cases hlt : n < (l.length : Int)
  · have HE : Hid (r = -1) := by have := hr.out; rw [left_no (by unfold totW; omega)] at this; exact this.symm
    clear h h3 hr
    go_enter Tryz.func55, Tryz.ntmps55
    go_wp2
    go_ret
    exact ⟨ret_int HE.out.symm, Below.refl _ _⟩
  · go_enter Tryz.func55, Tryz.ntmps55
    go_wp2
    go_loopw [1, 5] (fun m i wr => ∃ k : Nat, k ≤ l.length ∧ i = .int .i64 k ∧ ∃ q : Int, 0 ≤ q ∧ q ≤ 1048576 ∧ m = .int .i64 q ∧ Hid (q = n - l.length - sumOf (fun c : Wr => c.name.size) (l.take k)) ∧ Below w.heap.size w wr) (fun _ i _ => l.length - (intOf i).toNat)
    case atStart => exact ⟨0, Nat.zero_le _, rfl, n - l.length, by omega, by omega, by go_num, (by show _ = _; simp [sumOf]), Below.refl _ _⟩
    case round =>
      obtain ⟨k, hk, rfl, q, hq0, hq1, rfl, HQ, hb⟩ := hrel
      by_cases hkl : k < l.length
      · obtain ⟨x, hx⟩ := getElem?_of_lt hkl
        have HT : Hid (sumOf (fun c : Wr => c.name.size) (l.take (k + 1)) = sumOf (fun c : Wr => c.name.size) (l.take k) + x.name.size) := sumOf_take (fun c : Wr => c.name.size) hx
        have HL : Hid (sumOf (fun c : Wr => c.name.size) (l.take (k + 1)) ≤ sumOf (fun c : Wr => c.name.size) l) := sumOf_take_le _ _ _
        obtain ⟨hxs, _, b, o, rfl, hc1, hc2⟩ := h3 k x hx
        have hc1 := (hb.cell (World.block_lt_of_cell? w _ hc1)).trans hc1
        have hc2 := (hb.cell (World.block_lt_of_cell? w _ hc2)).trans hc2
        clear h3 h hx
        by_cases hneg : q < ((x.name.size : Nat) : Int)
        · have HE : Hid (r = -1) := by have := hr.out; rw [left_no (by have := HQ.out; have := HT.out; have := HL.out; unfold totW; omega)] at this; exact this.symm
          have HN : Hid (left q x.name.size = -1) := left_no hneg
          clear hr
          go_wp2_with (go_at_call 106; refine (szWire_ct _ _ q _ (-1) HN hxs hq0 hq1).mono ?_; rintro e w2 ⟨rfl, hb2⟩)
          go_ret
          exact ⟨ret_int HE.out.symm, hb.trans (hb2.mono hb.size)⟩
        · have HN : Hid (left q x.name.size = q - ((x.name.size : Nat) : Int)) := left_yes (by omega)
          go_wp2_with (go_at_call 106; refine (szWire_ct _ _ q _ (q - ((x.name.size : Nat) : Int)) HN hxs hq0 hq1).mono ?_; rintro e w2 ⟨rfl, hb2⟩)
          go_roundw
          case rel => exact ⟨k + 1, by omega, by go_num, q - ((x.name.size : Nat) : Int), by omega, by omega, by go_num, (by show _ = _; have := HQ.out; have := HT.out; omega), hb.trans (hb2.mono hb.size)⟩
          case measure => simp [intOf]; omega
      · have HE : Hid (r = q) := by
          have h4 : l.take k = l := List.take_of_length_le (by omega)
          have h5 := HQ.out
          rw [h4] at h5
          have h6 := hr.out
          rw [left_yes (by unfold totW; omega)] at h6
          unfold totW at h6
          show _ = _
          omega
        clear h3 h HQ hr
        go_wp2
        go_ret
        exact ⟨ret_int HE.out.symm, hb⟩

set_option maxHeartbeats 1000000 in
theorem szNodeS_ct (v : Value) (l : List Nd) (n : Int) (w : World) (r : Int) (hr : Hid (left n (totN l) = r)) (h : NdsM 9223372036854775807 w v l) (hn : 0 ≤ n) (hn1 : n ≤ 1048576) :
    Calls Tryz.prog 52 #[v, .int .i64 n] w fun e w' => e = .returned (.int .i64 r) ∧ Below w.heap.size w w' := by
  obtain ⟨a, c, rfl, h1, h2, h3⟩ := h.open
  by_cases hlt : n < (l.length : Int)
  · have HE : Hid (r = -1) := by have := hr.out; rw [left_no (by unfold totN; omega)] at this; exact this.symm
    clear h h3 hr
    go_enter Tryz.func52, Tryz.ntmps52
    go_wp2
    go_ret
    exact ⟨ret_int HE.out.symm, Below.refl _ _⟩
  · go_enter Tryz.func52, Tryz.ntmps52
    go_wp2
    go_loopw [1, 5] (fun m i wr => ∃ k : Nat, k ≤ l.length ∧ i = .int .i64 k ∧ ∃ q : Int, 0 ≤ q ∧ q ≤ 1048576 ∧ m = .int .i64 q ∧ Hid (q = n - l.length - sumOf (fun c : Nd => c.links.length) (l.take k)) ∧ Below w.heap.size w wr) (fun _ i _ => l.length - (intOf i).toNat)
    case atStart => exact ⟨0, Nat.zero_le _, rfl, n - l.length, by omega, by omega, by go_num, (by show _ = _; simp [sumOf]), Below.refl _ _⟩
    case round =>
      obtain ⟨k, hk, rfl, q, hq0, hq1, rfl, HQ, hb⟩ := hrel
      by_cases hkl : k < l.length
      · obtain ⟨x, hx⟩ := getElem?_of_lt hkl
        have HT : Hid (sumOf (fun c : Nd => c.links.length) (l.take (k + 1)) = sumOf (fun c : Nd => c.links.length) (l.take k) + x.links.length) := sumOf_take (fun c : Nd => c.links.length) hx
        have HL : Hid (sumOf (fun c : Nd => c.links.length) (l.take (k + 1)) ≤ sumOf (fun c : Nd => c.links.length) l) := sumOf_take_le _ _ _
        obtain ⟨_, _, b, o, vl, rfl, hvl, hc1, hc2, hc3⟩ := h3 k x hx
        have hvl := hvl.below hb
        have hc1 := (hb.cell (World.block_lt_of_cell? w _ hc1)).trans hc1
        have hc2 := (hb.cell (World.block_lt_of_cell? w _ hc2)).trans hc2
        have hc3 := (hb.cell (World.block_lt_of_cell? w _ hc3)).trans hc3
        clear h3 h hx
        by_cases hneg : q < ((x.links.length : Nat) : Int)
        · have HE : Hid (r = -1) := by have := hr.out; rw [left_no (by have := HQ.out; have := HT.out; have := HL.out; unfold totN; omega)] at this; exact this.symm
          have HN : Hid (left q x.links.length = -1) := left_no hneg
          clear hr
          go_wp2_with (go_at_call 105; refine (szNode_ct _ _ vl x.links q _ (-1) HN hvl hq0 hq1).mono ?_; rintro e w2 ⟨rfl, hb2⟩)
          go_ret
          exact ⟨ret_int HE.out.symm, hb.trans (hb2.mono hb.size)⟩
        · have HN : Hid (left q x.links.length = q - ((x.links.length : Nat) : Int)) := left_yes (by omega)
          go_wp2_with (go_at_call 105; refine (szNode_ct _ _ vl x.links q _ (q - ((x.links.length : Nat) : Int)) HN hvl hq0 hq1).mono ?_; rintro e w2 ⟨rfl, hb2⟩)
          go_roundw
          case rel => exact ⟨k + 1, by omega, by go_num, q - ((x.links.length : Nat) : Int), by omega, by omega, by go_num, (by show _ = _; have := HQ.out; have := HT.out; omega), hb.trans (hb2.mono hb.size)⟩
          case measure => simp [intOf]; omega
      · have HE : Hid (r = q) := by
          have h4 : l.take k = l := List.take_of_length_le (by omega)
          have h5 := HQ.out
          rw [h4] at h5
          have h6 := hr.out
          rw [left_yes (by unfold totN; omega)] at h6
          unfold totN at h6
          show _ = _
          omega
        clear h3 h HQ hr
        go_wp2
        go_ret
        exact ⟨ret_int HE.out.symm, hb⟩

set_option maxHeartbeats 2000000 in
theorem szBigraph_ct (v : Value) (b : Big) (n : Int) (w : World) (r : Int) (hr : Hid (left n (totB b) = r)) (h : BigM 9223372036854775807 w v b) (hn : 0 ≤ n) (hn1 : n ≤ 1048576) :
    Calls Tryz.prog 14 #[v, .int .i64 n] w fun e w' => e = .returned (.int .i64 r) ∧ Below w.heap.size w w' := by
  obtain ⟨vn, vs, vo, vi, rfl, h1, h2, h3, h4, _, _⟩ := h
  have hA := balloc w (.cells #[.int .i64 b.roots, vn, vs, .int .i64 b.edges, vo, vi] 42)
  have h1 := h1.below hA
  have h2 := h2.below hA
  have h3 := h3.below hA
  have h4 := h4.below hA
  have hz1 : w.heap.size < (w.alloc (.cells #[.int .i64 b.roots, vn, vs, .int .i64 b.edges, vo, vi] 42)).heap.size := by simp
  by_cases hk0 : n < (totN b.nodes : Int)
  · have HN0 : Hid (left n (totN b.nodes) = (-1)) := left_no (by omega)
    have HE : Hid (r = -1) := by have := hr.out; rw [left_no (by unfold totB; omega)] at this; (try unfold totB at this); show _ = _; omega
    clear hr
    go_enter Tryz.func14, Tryz.ntmps14
    go_wp2_with (first | (go_at_call 52; refine (szNodeS_ct vn _ n _ _ HN0 h1 (by omega) (by omega)).mono ?_; rintro e w2 ⟨rfl, hb2⟩; have hc2 := bcell hb2; have hz2 := bsize hb2 hz1))
    go_ret
    exact ⟨ret_int HE.out.symm, bthen hA hb2⟩
  by_cases hk1 : n - totN b.nodes < (totI b.sites : Int)
  · have HN0 : Hid (left n (totN b.nodes) = (n - totN b.nodes)) := left_yes (by omega)
    have HN1 : Hid (left (n - totN b.nodes) (totI b.sites) = (-1)) := left_no (by omega)
    have HE : Hid (r = -1) := by have := hr.out; rw [left_no (by unfold totB; omega)] at this; (try unfold totB at this); show _ = _; omega
    clear hr
    go_enter Tryz.func14, Tryz.ntmps14
    go_wp2_with (first | (go_at_call 52; refine (szNodeS_ct vn _ n _ _ HN0 h1 (by omega) (by omega)).mono ?_; rintro e w2 ⟨rfl, hb2⟩; have hc2 := bcell hb2; have hz2 := bsize hb2 hz1) | (go_at_call 53; refine (szIntS_ct vs _ _ _ _ HN1 (h2.below hb2) (by omega) (by omega)).mono ?_; rintro e w3 ⟨rfl, hb3⟩; have hb3 := hb3 ▸ hb2))
    go_ret
    exact ⟨ret_int HE.out.symm, bthen hA hb2⟩
  by_cases hk2 : n - totN b.nodes - totI b.sites < (totS b.outer : Int)
  · have HN0 : Hid (left n (totN b.nodes) = (n - totN b.nodes)) := left_yes (by omega)
    have HN1 : Hid (left (n - totN b.nodes) (totI b.sites) = (n - totN b.nodes - totI b.sites)) := left_yes (by omega)
    have HN2 : Hid (left (n - totN b.nodes - totI b.sites) (totS b.outer) = (-1)) := left_no (by omega)
    have HE : Hid (r = -1) := by have := hr.out; rw [left_no (by unfold totB; omega)] at this; (try unfold totB at this); show _ = _; omega
    clear hr
    go_enter Tryz.func14, Tryz.ntmps14
    go_wp2_with (first | (go_at_call 52; refine (szNodeS_ct vn _ n _ _ HN0 h1 (by omega) (by omega)).mono ?_; rintro e w2 ⟨rfl, hb2⟩; have hc2 := bcell hb2; have hz2 := bsize hb2 hz1) | (go_at_call 53; refine (szIntS_ct vs _ _ _ _ HN1 (h2.below hb2) (by omega) (by omega)).mono ?_; rintro e w3 ⟨rfl, hb3⟩; have hb3 := hb3 ▸ hb2) | (go_at_call 54; refine (szStringS_ct vo _ _ _ _ HN2 (h3.below hb2) (by omega) (by omega)).mono ?_; rintro e w4 ⟨rfl, hb4⟩; have hc4 := bcell hb4; have hz4 := bsize hb4 hz2))
    go_ret
    exact ⟨ret_int HE.out.symm, bthen hA (bthen hb2 hb4)⟩
  by_cases hk3 : n - totN b.nodes - totI b.sites - totS b.outer < (totW b.inner : Int)
  · have HN0 : Hid (left n (totN b.nodes) = (n - totN b.nodes)) := left_yes (by omega)
    have HN1 : Hid (left (n - totN b.nodes) (totI b.sites) = (n - totN b.nodes - totI b.sites)) := left_yes (by omega)
    have HN2 : Hid (left (n - totN b.nodes - totI b.sites) (totS b.outer) = (n - totN b.nodes - totI b.sites - totS b.outer)) := left_yes (by omega)
    have HN3 : Hid (left (n - totN b.nodes - totI b.sites - totS b.outer) (totW b.inner) = (-1)) := left_no (by omega)
    have HE : Hid (r = -1) := by have := hr.out; rw [left_no (by unfold totB; omega)] at this; (try unfold totB at this); show _ = _; omega
    clear hr
    go_enter Tryz.func14, Tryz.ntmps14
    go_wp2_with (first | (go_at_call 52; refine (szNodeS_ct vn _ n _ _ HN0 h1 (by omega) (by omega)).mono ?_; rintro e w2 ⟨rfl, hb2⟩; have hc2 := bcell hb2; have hz2 := bsize hb2 hz1) | (go_at_call 53; refine (szIntS_ct vs _ _ _ _ HN1 (h2.below hb2) (by omega) (by omega)).mono ?_; rintro e w3 ⟨rfl, hb3⟩; have hb3 := hb3 ▸ hb2) | (go_at_call 54; refine (szStringS_ct vo _ _ _ _ HN2 (h3.below hb2) (by omega) (by omega)).mono ?_; rintro e w4 ⟨rfl, hb4⟩; have hc4 := bcell hb4; have hz4 := bsize hb4 hz2) | (go_at_call 55; refine (szWireS_ct vi _ _ _ _ HN3 ((h4.below hb2).below hb4) (by omega) (by omega)).mono ?_; rintro e w5 ⟨rfl, hb5⟩))
    go_ret
    exact ⟨ret_int HE.out.symm, bthen hA (bthen hb2 (bthen hb4 hb5))⟩
  have HN0 : Hid (left n (totN b.nodes) = (n - totN b.nodes)) := left_yes (by omega)
  have HN1 : Hid (left (n - totN b.nodes) (totI b.sites) = (n - totN b.nodes - totI b.sites)) := left_yes (by omega)
  have HN2 : Hid (left (n - totN b.nodes - totI b.sites) (totS b.outer) = (n - totN b.nodes - totI b.sites - totS b.outer)) := left_yes (by omega)
  have HN3 : Hid (left (n - totN b.nodes - totI b.sites - totS b.outer) (totW b.inner) = (n - totN b.nodes - totI b.sites - totS b.outer - totW b.inner)) := left_yes (by omega)
  have HE : Hid (r = (n - totN b.nodes - totI b.sites - totS b.outer - totW b.inner)) := by have := hr.out; rw [left_yes (by unfold totB; omega)] at this; (try unfold totB at this); show _ = _; omega
  clear hr
  go_enter Tryz.func14, Tryz.ntmps14
  go_wp2_with (first | (go_at_call 52; refine (szNodeS_ct vn _ n _ _ HN0 h1 (by omega) (by omega)).mono ?_; rintro e w2 ⟨rfl, hb2⟩; have hc2 := bcell hb2; have hz2 := bsize hb2 hz1) | (go_at_call 53; refine (szIntS_ct vs _ _ _ _ HN1 (h2.below hb2) (by omega) (by omega)).mono ?_; rintro e w3 ⟨rfl, hb3⟩; have hb3 := hb3 ▸ hb2) | (go_at_call 54; refine (szStringS_ct vo _ _ _ _ HN2 (h3.below hb2) (by omega) (by omega)).mono ?_; rintro e w4 ⟨rfl, hb4⟩; have hc4 := bcell hb4; have hz4 := bsize hb4 hz2) | (go_at_call 55; refine (szWireS_ct vi _ _ _ _ HN3 ((h4.below hb2).below hb4) (by omega) (by omega)).mono ?_; rintro e w5 ⟨rfl, hb5⟩))
  go_ret
  exact ⟨ret_int HE.out.symm, bthen hA (bthen hb2 (bthen hb4 hb5))⟩

end Go.Proofs.YthgelhglfbgagaaGreatDoor

/- The laws' comparisons: two values that read as the same data are called equal. -/
namespace Go.Proofs.YthgelhglfbgagaaGreatDoor
open Go Go.RowKit Go.BigFrame

set_option maxHeartbeats 1000000 in
theorem eqControl_ct (s : ByteArray) (p k : Int) (w : World) :
    Calls Tryz.prog 42 #[.agg #[.string s, .int .i64 p, .int .i64 k], .agg #[.string s, .int .i64 p, .int .i64 k]] w fun e w' => e = .returned (.bool true) ∧ Below w.heap.size w w' := by
  go_enter Tryz.func42, Tryz.ntmps42
  go_wp2
  go_ret
  exact ⟨rfl, ((balloc w _).trans ((balloc _ _).mono (balloc w _).size))⟩

set_option maxHeartbeats 1000000 in
theorem eqWire_ct (s : ByteArray) (p : Int) (w : World) :
    Calls Tryz.prog 104 #[.agg #[.string s, .int .i64 p], .agg #[.string s, .int .i64 p]] w fun e w' => e = .returned (.bool true) ∧ Below w.heap.size w w' := by
  go_enter Tryz.func104, Tryz.ntmps104
  go_wp2
  go_ret
  exact ⟨rfl, ((balloc w _).trans ((balloc _ _).mono (balloc w _).size))⟩

set_option maxHeartbeats 1000000 in
theorem eqIntS_ct (v1 v2 : Value) (l : List Int) (w : World) (h : IntsAt w v1 l) (h' : IntsAt w v2 l) :
    Calls Tryz.prog 39 #[v1, v2] w fun e w' => e = .returned (.bool true) ∧ Below w.heap.size w w' := by
  obtain ⟨a1, c1, rfl, _, hl, h1⟩ := h.open
  obtain ⟨a2, c2, rfl, _, _, h2⟩ := h'.open
  clear h h'
  go_enter Tryz.func39, Tryz.ntmps39
  go_wp2
  go_loopw [5] (fun i wr => ∃ k : Nat, k ≤ l.length ∧ i = .int .i64 k ∧ Below w.heap.size w wr) (fun i _ => l.length - (intOf i).toNat)
  case atStart => exact ⟨0, Nat.zero_le _, rfl, Below.refl _ _⟩
  case round =>
    obtain ⟨k, hk, rfl, hb⟩ := hrel
    by_cases hkl : k < l.length
    · obtain ⟨x, hx⟩ := getElem?_of_lt hkl
      obtain ⟨_, b1, o1, rfl, hc0⟩ := h1 k x hx
      obtain ⟨_, b2, o2, rfl, hd0⟩ := h2 k x hx
      have gc0 := fun y => gr_cell (w := wr) ((hb.cell (World.block_lt_of_cell? w _ hc0)).trans hc0) y
      have gd0 := fun y => gr_cell (w := wr) ((hb.cell (World.block_lt_of_cell? w _ hd0)).trans hd0) y
      clear hc0 hd0
      clear h1 h2 hx
      go_wp2
      refine wp_region_gr (by kernel_rfl) (by kernel_rfl) ?_
      repeat (go_big_quiet_step (fail))
      refine wpQuiet_nil ?_
      intro w2 hb2
      go_wp2
      go_roundw
      case rel => exact ⟨k + 1, by omega, by go_num, bthen hb hb2⟩
      case measure => simp [intOf]; omega
    · clear h1 h2
      go_wp2
      go_ret
      exact ⟨rfl, hb⟩

set_option maxHeartbeats 1000000 in
theorem eqStringS_ct (v1 v2 : Value) (l : List ByteArray) (w : World) (h : StrsAt w v1 l) (h' : StrsAt w v2 l) :
    Calls Tryz.prog 40 #[v1, v2] w fun e w' => e = .returned (.bool true) ∧ Below w.heap.size w w' := by
  obtain ⟨a1, c1, rfl, _, hl, h1⟩ := h.open
  obtain ⟨a2, c2, rfl, _, _, h2⟩ := h'.open
  clear h h'
  go_enter Tryz.func40, Tryz.ntmps40
  go_wp2
  go_loopw [5] (fun i wr => ∃ k : Nat, k ≤ l.length ∧ i = .int .i64 k ∧ Below w.heap.size w wr) (fun i _ => l.length - (intOf i).toNat)
  case atStart => exact ⟨0, Nat.zero_le _, rfl, Below.refl _ _⟩
  case round =>
    obtain ⟨k, hk, rfl, hb⟩ := hrel
    by_cases hkl : k < l.length
    · obtain ⟨x, hx⟩ := getElem?_of_lt hkl
      obtain ⟨_, b1, o1, rfl, hc0⟩ := h1 k x hx
      obtain ⟨_, b2, o2, rfl, hd0⟩ := h2 k x hx
      have gc0 := fun y => gr_cell (w := wr) ((hb.cell (World.block_lt_of_cell? w _ hc0)).trans hc0) y
      have gd0 := fun y => gr_cell (w := wr) ((hb.cell (World.block_lt_of_cell? w _ hd0)).trans hd0) y
      clear hc0 hd0
      clear h1 h2 hx
      go_wp2
      refine wp_region_gr (by kernel_rfl) (by kernel_rfl) ?_
      repeat (go_big_quiet_step (fail))
      refine wpQuiet_nil ?_
      intro w2 hb2
      go_wp2
      go_roundw
      case rel => exact ⟨k + 1, by omega, by go_num, bthen hb hb2⟩
      case measure => simp [intOf]; omega
    · clear h1 h2
      go_wp2
      go_ret
      exact ⟨rfl, hb⟩

set_option maxHeartbeats 1000000 in
theorem eqControlS_ct (v1 v2 : Value) (l : List Ctl) (w : World) (h : CtlsAt w v1 l) (h' : CtlsAt w v2 l) :
    Calls Tryz.prog 10 #[v1, v2] w fun e w' => e = .returned (.bool true) ∧ Below w.heap.size w w' := by
  obtain ⟨a1, c1, rfl, _, hl, h1⟩ := h.open
  obtain ⟨a2, c2, rfl, _, _, h2⟩ := h'.open
  clear h h'
  go_enter Tryz.func10, Tryz.ntmps10
  go_wp2
  go_loopw [5] (fun i wr => ∃ k : Nat, k ≤ l.length ∧ i = .int .i64 k ∧ Below w.heap.size w wr) (fun i _ => l.length - (intOf i).toNat)
  case atStart => exact ⟨0, Nat.zero_le _, rfl, Below.refl _ _⟩
  case round =>
    obtain ⟨k, hk, rfl, hb⟩ := hrel
    by_cases hkl : k < l.length
    · obtain ⟨x, hx⟩ := getElem?_of_lt hkl
      obtain ⟨_, _, _, b1, o1, rfl, hc0, hc1, hc2⟩ := h1 k x hx
      obtain ⟨_, _, _, b2, o2, rfl, hd0, hd1, hd2⟩ := h2 k x hx
      have gc0 := fun y => gr_cell (w := wr) ((hb.cell (World.block_lt_of_cell? w _ hc0)).trans hc0) y
      have gc1 := fun y => gr_cell (w := wr) ((hb.cell (World.block_lt_of_cell? w _ hc1)).trans hc1) y
      have gc2 := fun y => gr_cell (w := wr) ((hb.cell (World.block_lt_of_cell? w _ hc2)).trans hc2) y
      have gd0 := fun y => gr_cell (w := wr) ((hb.cell (World.block_lt_of_cell? w _ hd0)).trans hd0) y
      have gd1 := fun y => gr_cell (w := wr) ((hb.cell (World.block_lt_of_cell? w _ hd1)).trans hd1) y
      have gd2 := fun y => gr_cell (w := wr) ((hb.cell (World.block_lt_of_cell? w _ hd2)).trans hd2) y
      clear hc0 hd0 hc1 hd1 hc2 hd2
      clear h1 h2 hx
      go_wp2
      refine wp_region_gr (by kernel_rfl) (by kernel_rfl) ?_
      repeat (go_big_quiet_step ((go_at_call 42; exact Calls.gr_of (eqControl_ct _ _ _ _))))
      refine wpQuiet_nil ?_
      intro w2 hb2
      go_wp2
      go_roundw
      case rel => exact ⟨k + 1, by omega, by go_num, bthen hb hb2⟩
      case measure => simp [intOf]; omega
    · clear h1 h2
      go_wp2
      go_ret
      exact ⟨rfl, hb⟩

set_option maxHeartbeats 1000000 in
theorem eqWireS_ct (v1 v2 : Value) (l : List Wr) (w : World) (h : WrsAt w v1 l) (h' : WrsAt w v2 l) :
    Calls Tryz.prog 41 #[v1, v2] w fun e w' => e = .returned (.bool true) ∧ Below w.heap.size w w' := by
  obtain ⟨a1, c1, rfl, _, hl, h1⟩ := h.open
  obtain ⟨a2, c2, rfl, _, _, h2⟩ := h'.open
  clear h h'
  go_enter Tryz.func41, Tryz.ntmps41
  go_wp2
  go_loopw [5] (fun i wr => ∃ k : Nat, k ≤ l.length ∧ i = .int .i64 k ∧ Below w.heap.size w wr) (fun i _ => l.length - (intOf i).toNat)
  case atStart => exact ⟨0, Nat.zero_le _, rfl, Below.refl _ _⟩
  case round =>
    obtain ⟨k, hk, rfl, hb⟩ := hrel
    by_cases hkl : k < l.length
    · obtain ⟨x, hx⟩ := getElem?_of_lt hkl
      obtain ⟨_, _, b1, o1, rfl, hc0, hc1⟩ := h1 k x hx
      obtain ⟨_, _, b2, o2, rfl, hd0, hd1⟩ := h2 k x hx
      have gc0 := fun y => gr_cell (w := wr) ((hb.cell (World.block_lt_of_cell? w _ hc0)).trans hc0) y
      have gc1 := fun y => gr_cell (w := wr) ((hb.cell (World.block_lt_of_cell? w _ hc1)).trans hc1) y
      have gd0 := fun y => gr_cell (w := wr) ((hb.cell (World.block_lt_of_cell? w _ hd0)).trans hd0) y
      have gd1 := fun y => gr_cell (w := wr) ((hb.cell (World.block_lt_of_cell? w _ hd1)).trans hd1) y
      clear hc0 hd0 hc1 hd1
      clear h1 h2 hx
      go_wp2
      refine wp_region_gr (by kernel_rfl) (by kernel_rfl) ?_
      repeat (go_big_quiet_step ((go_at_call 104; exact Calls.gr_of (eqWire_ct _ _ _))))
      refine wpQuiet_nil ?_
      intro w2 hb2
      go_wp2
      go_roundw
      case rel => exact ⟨k + 1, by omega, by go_num, bthen hb hb2⟩
      case measure => simp [intOf]; omega
    · clear h1 h2
      go_wp2
      go_ret
      exact ⟨rfl, hb⟩

set_option maxHeartbeats 1000000 in
theorem eqNode_ct (p k : Int) (v1 v2 : Value) (l : List Int) (w : World) (h1 : IntsAt w v1 l) (h2 : IntsAt w v2 l) :
    Calls Tryz.prog 103 #[.agg #[.int .i64 p, .int .i64 k, v1], .agg #[.int .i64 p, .int .i64 k, v2]] w fun e w' => e = .returned (.bool true) ∧ Below w.heap.size w w' := by
  have hA := bthen (balloc w (.cells #[.int .i64 p, .int .i64 k, v1] 57)) (balloc (w.alloc (.cells #[.int .i64 p, .int .i64 k, v1] 57)) (.cells #[.int .i64 p, .int .i64 k, v2] 57))
  have g1 := h1.below hA
  have g2 := h2.below hA
  go_enter Tryz.func103, Tryz.ntmps103
  go_wp2_with (go_at_call 39; refine (eqIntS_ct v1 v2 l _ g1 g2).mono ?_; rintro e w2 ⟨rfl, hb2⟩)
  go_ret
  exact ⟨rfl, bthen hA hb2⟩

set_option maxHeartbeats 1000000 in
theorem eqNodeS_ct (v1 v2 : Value) (l : List Nd) (w : World) (h : NdsAt w v1 l) (h' : NdsAt w v2 l) :
    Calls Tryz.prog 38 #[v1, v2] w fun e w' => e = .returned (.bool true) ∧ Below w.heap.size w w' := by
  obtain ⟨a1, c1, rfl, _, hl, h1⟩ := h.open
  obtain ⟨a2, c2, rfl, _, _, h2⟩ := h'.open
  clear h h'
  go_enter Tryz.func38, Tryz.ntmps38
  go_wp2
  go_loopw [5] (fun i wr => ∃ k : Nat, k ≤ l.length ∧ i = .int .i64 k ∧ Below w.heap.size w wr) (fun i _ => l.length - (intOf i).toNat)
  case atStart => exact ⟨0, Nat.zero_le _, rfl, Below.refl _ _⟩
  case round =>
    obtain ⟨k, hk, rfl, hb⟩ := hrel
    by_cases hkl : k < l.length
    · obtain ⟨x, hx⟩ := getElem?_of_lt hkl
      obtain ⟨_, _, b1, o1, u1, rfl, hu1, hc0, hc1, hc2⟩ := h1 k x hx
      obtain ⟨_, _, b2, o2, u2, rfl, hu2, hd0, hd1, hd2⟩ := h2 k x hx
      have hu1 := hu1.below hb
      have hu2 := hu2.below hb
      have gc0 := fun y => gr_cell (w := wr) ((hb.cell (World.block_lt_of_cell? w _ hc0)).trans hc0) y
      have gc1 := fun y => gr_cell (w := wr) ((hb.cell (World.block_lt_of_cell? w _ hc1)).trans hc1) y
      have gc2 := fun y => gr_cell (w := wr) ((hb.cell (World.block_lt_of_cell? w _ hc2)).trans hc2) y
      have gd0 := fun y => gr_cell (w := wr) ((hb.cell (World.block_lt_of_cell? w _ hd0)).trans hd0) y
      have gd1 := fun y => gr_cell (w := wr) ((hb.cell (World.block_lt_of_cell? w _ hd1)).trans hd1) y
      have gd2 := fun y => gr_cell (w := wr) ((hb.cell (World.block_lt_of_cell? w _ hd2)).trans hd2) y
      clear hc0 hc1 hc2 hd0 hd1 hd2
      clear h1 h2 hx
      go_wp2
      refine wp_region_gr (by kernel_rfl) (by kernel_rfl) ?_
      repeat (go_big_quiet_step ((go_at_call 103; exact Calls.gr_of (eqNode_ct _ _ u1 u2 x.links _ (hu1.below (gr_below _ _)) (hu2.below (gr_below _ _))))))
      refine wpQuiet_nil ?_
      intro w2 hb2
      go_wp2
      go_roundw
      case rel => exact ⟨k + 1, by omega, by go_num, bthen hb hb2⟩
      case measure => simp [intOf]; omega
    · clear h1 h2
      go_wp2
      go_ret
      exact ⟨rfl, hb⟩

set_option maxHeartbeats 2000000 in
theorem eqBigraph_ct (v v' : Value) (b : Big) (w : World) (h : BigAt w v b) (h' : BigAt w v' b) :
    Calls Tryz.prog 9 #[v, v'] w fun e w' => e = .returned (.bool true) ∧ Below w.heap.size w w' := by
  obtain ⟨vn, vs, vo, vi, rfl, h1, h2, h3, h4, _, _⟩ := h
  obtain ⟨un, us, uo, ui, rfl, k1, k2, k3, k4, _, _⟩ := h'
  have hA := bthen (balloc w (.cells #[.int .i64 b.roots, vn, vs, .int .i64 b.edges, vo, vi] 29)) (balloc _ (.cells #[.int .i64 b.roots, un, us, .int .i64 b.edges, uo, ui] 29))
  have h1 := h1.below hA
  have h2 := h2.below hA
  have h3 := h3.below hA
  have h4 := h4.below hA
  have k1 := k1.below hA
  have k2 := k2.below hA
  have k3 := k3.below hA
  have k4 := k4.below hA
  have hz : w.heap.size + 1 < ((w.alloc (.cells #[.int .i64 b.roots, vn, vs, .int .i64 b.edges, vo, vi] 29)).alloc (.cells #[.int .i64 b.roots, un, us, .int .i64 b.edges, uo, ui] 29)).heap.size := by simp
  have hy : w.heap.size < ((w.alloc (.cells #[.int .i64 b.roots, vn, vs, .int .i64 b.edges, vo, vi] 29)).alloc (.cells #[.int .i64 b.roots, un, us, .int .i64 b.edges, uo, ui] 29)).heap.size := by simp; omega
  go_enter Tryz.func9, Tryz.ntmps9
  go_wp2_with (first | (go_at_call 38; refine (eqNodeS_ct vn un _ _ h1 k1).mono ?_; rintro e w2 ⟨rfl, hb2⟩; have hc2 := bcell hb2; have hz2 := bsize hb2 hz; have hy2 := bsize hb2 hy) | (go_at_call 39; refine (eqIntS_ct vs us _ _ (h2.below hb2) (k2.below hb2)).mono ?_; rintro e w3 ⟨rfl, hb3⟩; have hc3 := bcell hb3; have hz3 := bsize hb3 hz2; have hy3 := bsize hb3 hy2) | (go_at_call 40; refine (eqStringS_ct vo uo _ _ (h3.below (bthen hb2 hb3)) (k3.below (bthen hb2 hb3))).mono ?_; rintro e w4 ⟨rfl, hb4⟩; have hc4 := bcell hb4; have hz4 := bsize hb4 hz3; have hy4 := bsize hb4 hy3) | (go_at_call 41; refine (eqWireS_ct vi ui _ _ (h4.below (bthen hb2 (bthen hb3 hb4))) (k4.below (bthen hb2 (bthen hb3 hb4)))).mono ?_; rintro e w5 ⟨rfl, hb5⟩))
  go_ret
  exact ⟨rfl, bthen hA (bthen hb2 (bthen hb3 (bthen hb4 hb5)))⟩

end Go.Proofs.YthgelhglfbgagaaGreatDoor
